/- slices.Sorted(maps.Keys(m)) at the clock's map. -/
import Derived.Test.YtdhkcjjcgpkkgaaKeysA
import Derived.Test.YtdhkcjjcgpkkgaaLays
import Derived.Test.YtdhkcjjcgpkkgaaLawA
import Derived.Shelf.SortM.Plain
import Derived.Shelf.SortM.SortNone
namespace Go.Proofs.Ytdhkcjjcgpkkgaa
open Go.RowKit Go.Maps Go.Sort Go.Shelf

theorem Try.sortsA (m : Nat) : AnyZI.SortsIn Try.prog Try.sortedA_ren Fence.wide m :=
  ⟨fun blk off cap ss W hH hblk hsz => callsIn_wide.2 (AnyM.slices_Sort_int Try.sortA blk off cap ss W hH hblk hsz),
   fun p cap W => callsIn_wide.2 (AnyM.slices_Sort_int_none Try.sortA p cap W)⟩
theorem keys_any (mb : Option Nat) (W : World) : Calls Try.prog 35 #[.map mb] W (Ret (.func (.func 42) #[] #[.pointer (some ⟨W.heap.size, 0, none⟩)]) (W.alloc (.cells #[.map mb] 24) = ·)) :=
  callsIn_wide.1 ((AnyZI.keys_in Try.keysA Fence.wide 5 trivial rfl mb W).mono fun _ _ ⟨h1, h2⟩ => ⟨h1, h2.symm⟩)
/-- v reads as the keys -/
def KeysTo (D : DMap) (w : World) (v : Value) (w' : World) : Prop := Ints w' v (keysOf D) ∧ Frm [] w w'
set_option maxHeartbeats 1000000 in
theorem sorted_some (b N c : Nat) (now : Int) (D : DMap) (w : World) (hg : Good now D) (hm : MapAt Try.prog 3 w (some b) N (fInt D) c) (hc : c ≤ 256) :
    Calls Try.prog 34 #[.func (.func 42) #[] #[.pointer (some ⟨w.heap.size, 0, none⟩)]] (w.alloc (.cells #[.map (some b)] 24)) (RetV (KeysTo D w)) := by
  obtain ⟨D0, hown, hsz, hks⟩ := keys_of_map hg hm Try.key3 Try.underlying3
  have hbl := hown.lt
  have hseq : SeqGives Fence.wide 2 Try.prog 42 #[.pointer (some ⟨w.heap.size, 0, none⟩)] encZ (fun ss => ss.Perm (intKeys D0)) (Maps.size D0) (w.alloc (.cells #[.map (some b)] 24)) :=
    AnyZI.keys_gives (ρ := Try.keysA_ren) { Try.keysA with } Fence.wide _ trivial rfl (by omega) w.heap.size b N D0 _ (by simp) (by simp) (by
      obtain ⟨es, clock, hb, Ft, hs, hD⟩ := hown
      exact ⟨es, clock, (Below.heap_alloc _ _ b hbl).trans hb, Ft, hs, hD⟩)
  have cS := AnyZI.sorted_in Try.sortedA Fence.wide 5 trivial trivial trivial trivial rfl (by omega) (Try.sortsA _) (enters_of Try.func41 (by kernel_rfl) rfl) 42 #[.pointer (some ⟨w.heap.size, 0, none⟩)] trivial (enters_of Try.func42 (by kernel_rfl) rfl) _ _ (by unfold maxLen; omega) (by omega) _ hseq
  change CallsIn _ _ Try.prog 34 _ _ _ at cS
  refine (callsIn_wide.1 cS).mono ?_
  rintro e w' ⟨v, ss, rfl, hS, hrow, hnil, hb⟩
  obtain ⟨h1, h2⟩ := hks ss hS
  rw [h1, h2] at hrow
  exact ⟨v, rfl, Ints.of_own hrow, ((Frm.refl [] w).alloc _).trans (Frm.of_below hb [])⟩
set_option maxHeartbeats 1000000 in
theorem sorted_nil (w : World) : Calls Try.prog 34 #[.func (.func 42) #[] #[.pointer (some ⟨w.heap.size, 0, none⟩)]] (w.alloc (.cells #[.map none] 24)) (RetV (KeysTo D0 w)) := by
  have hseq : SeqGives Fence.wide 2 Try.prog 42 #[.pointer (some ⟨w.heap.size, 0, none⟩)] encZ (fun ss : List Int => ss = []) 0 (w.alloc (.cells #[.map none] 24)) :=
    AnyZI.keys_gives_nil (ρ := Try.keysA_ren) { Try.keysA with } Fence.wide _ trivial rfl w.heap.size _ (by simp) (by simp)
  have cS := AnyZI.sorted_in Try.sortedA Fence.wide 5 trivial trivial trivial trivial rfl (by omega) (Try.sortsA _) (enters_of Try.func41 (by kernel_rfl) rfl) 42 #[.pointer (some ⟨w.heap.size, 0, none⟩)] trivial (enters_of Try.func42 (by kernel_rfl) rfl) _ 0 (Nat.zero_le _) (by omega) _ hseq
  change CallsIn _ _ Try.prog 34 _ _ _ at cS
  refine (callsIn_wide.1 cS).mono ?_
  rintro e w' ⟨v, ss, rfl, rfl, hrow, hnil, hb⟩
  refine ⟨v, rfl, ?_, ((Frm.refl [] w).alloc _).trans (Frm.of_below hb [])⟩
  have : keysOf D0 = [] := by
    refine List.eq_nil_of_length_eq_zero ?_
    rw [show keysOf D0 = keysK D0 256 from rfl, keysK_length]; exact cntK_none (fun _ => rfl) 256
  rw [this]
  simp only [List.mergeSort_nil] at hrow
  exact Ints.of_own (l := []) hrow
theorem sorted_any (mb : Option Nat) (N : Nat) (now : Int) (D : DMap) (w : World) (hg : Good now D) (hm : MapAt Try.prog 3 w mb N (fInt D) (cnt D)) :
    Calls Try.prog 34 #[.func (.func 42) #[] #[.pointer (some ⟨w.heap.size, 0, none⟩)]] (w.alloc (.cells #[.map mb] 24)) (RetV (KeysTo D w)) := by
  cases mb with
  | some b => exact sorted_some b N _ now D w hg hm (by have := cntK_le D 256; unfold cnt; omega)
  | none =>
    have hD : D = D0 := by
      rcases hm with ⟨_, h, _⟩ | ⟨_, _, h, _⟩
      · funext t
        have := h (.int .i64 t)
        simpa [fInt, D0] using this
      · cases h
    subst hD
    exact sorted_nil w
end Go.Proofs.Ytdhkcjjcgpkkgaa
