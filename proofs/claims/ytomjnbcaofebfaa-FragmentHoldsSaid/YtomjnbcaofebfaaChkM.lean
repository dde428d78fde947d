/- The checksum of kind 2. -/
import Derived.Test.YtomjnbcaofebfaaLeaf
import Derived.Laws.EntriesVeiled
namespace Go.Proofs.Ytomjnbcaofebfaa
open Go.RowKit Go.BigFrame

def fv (n : Nat) : Value := .func (.func n) #[] #[]
def MV : Array Value := #[.int .i64 16, .int .i64 0, .int .i64 0, .int .i64 0, fv 82, fv 83, .int .i64 16, .int .i64 65535, .int .i64 0, .int .i64 0, fv 84, fv 85, .int .i64 32, .int .i64 1, .int .i64 0, .int .i64 0, fv 86, fv 87]
def M2 : Array Value := #[.int .i64 16, .int .i64 65535, .int .i64 0, .int .i64 0, fv 84, fv 85]
theorem results_c128 {fn : Func} {p : Tmp} (h : fn.results = #[.cell p 128]) {tmps : Array Value} {w : World} {g : Nat} {A : Array Value} {t : TypeId} {f : Nat × Nat} (hp : tmps.getD p undef = .pointer (some ⟨g, 0, none⟩)) (hg : w.heap[g]? = some (.cells A t f)) (hs : A.size = 18) :
    (results fn tmps).run Try.prog w = .ok (.agg A) w := by
  have hp' : tmps[p]?.getD undef = .pointer (some ⟨g, 0, none⟩) := by simpa using hp
  simp [results, h, hp', asAddr, run_loadVar_row w g t 128 A f _ hg Try.underlying128 rfl (by rw [hs]; kernel_rfl)]
theorem results_c109 {fn : Func} {p q : Tmp} (h : fn.results = #[.cell p 109, .tmp q]) {tmps : Array Value} {w : World} {g : Nat} {A : Array Value} {t : TypeId} {f : Nat × Nat} {v : Value} (hp : tmps.getD p undef = .pointer (some ⟨g, 0, none⟩)) (hq : tmps.getD q undef = v) (hg : w.heap[g]? = some (.cells A t f)) (hs : A.size = 6) :
    (results fn tmps).run Try.prog w = .ok (.tuple #[.agg A, v]) w := by
  have hp' : tmps[p]?.getD undef = .pointer (some ⟨g, 0, none⟩) := by simpa using hp
  have hq' : tmps[q]?.getD undef = v := by simpa using hq
  simp [results, h, hp', hq', asAddr, run_loadVar_row w g t 109 A f _ hg Try.underlying109 rfl (by rw [hs]; kernel_rfl)]
set_option maxHeartbeats 2000000 in
set_option maxRecDepth 100000 in
theorem methods_any (w : World) : Calls Try.prog 75 #[] w (Ret (.agg MV) (Frm [] w)) := by
  go_enter Try.func75, Try.ntmps75
  go_wp2
  exact bodyPost_ret (results_c128 rfl rfl (heap_alloc_new _ _) rfl) rfl ⟨rfl, (Frm.refl _ _).alloc _⟩
end Go.Proofs.Ytomjnbcaofebfaa
