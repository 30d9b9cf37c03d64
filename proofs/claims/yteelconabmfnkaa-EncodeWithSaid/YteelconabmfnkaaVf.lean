/- abacusref24.lines. -/
import Derived.Test.YteelconabmfnkaaVb
import Derived.Test.YteelconabmfnkaaTg
namespace Go.Proofs.Yteelconabmfnkaa
open Go Go.RowKit
set_option maxHeartbeats 4000000
set_option maxRecDepth 100000
set_option linter.unusedVariables false
set_option linter.unusedSimpArgs false
def lineCells : Array Value := (LINES.flatMap fun s => (lnV s).toList).toArray
theorem lines_c (w : World) : Calls Try.prog 60 #[] w fun e w' => e = .returned (.slice (some ⟨w.heap.size, 0, none⟩) 31 31) ∧ Blk w' w.heap.size lineCells 111 ∧ Below w.heap.size w w' := by
  go_enter Try.func60, Try.ntmps60
  go_wp2
  refine wp_value (w' := w.alloc (.cells lineCells 111)) (.slice (some ⟨w.heap.size, 0, none⟩) 31 31) (by kernel_rfl) ?_
  go_wp2
  go_ret
  exact ⟨rfl, Blk.new _ _ _, (Below.refl _ w).alloc (Nat.le_refl _) _⟩
end Go.Proofs.Yteelconabmfnkaa
