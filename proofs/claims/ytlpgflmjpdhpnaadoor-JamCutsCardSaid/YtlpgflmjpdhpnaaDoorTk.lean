/- The door: from the row's condition to the table in its variable; a world that meets the condition. -/
import Derived.Test.YtlpgflmjpdhpnaaDoorRows
import Derived.Test.YtlpgflmjpdhpnaaDoorTz
import Derived.Lib.LaidTab
import Derived.LaidLaws
import Derived.LaidHandle
import Derived.Handed
import Derived.Clock
namespace Go.Proofs.YtlpgflmjpdhpnaaDoor
open Go.RowKit
set_option linter.unusedVariables false
set_option maxRecDepth 100000
theorem tabNamed : Tryd.prog.globalNamed "math/bits.deBruijn64tab" = some 0 := by kernel_rfl
theorem tabTyped : (Tryd.prog.globals[0]?).map (·.type) = some 62 := by kernel_rfl
/-- the table's whole numbers -/
def tabInts : List Int := (Lib.deBruijn64tab : List Nat).map fun (n : Nat) => Int.ofNat n
theorem tab_laid : (Rows.laid_math_bits_deBruijn64tab : DataW Unit) = Lib.tabData .u8 tabInts := by kernel_rfl
theorem tab_of_laid {W : World} (h : laidMetH Tryd.prog [("math/bits.deBruijn64tab", Rows.laid_math_bits_deBruijn64tab)] W) : Tab W := by
  have h' : laidMet Tryd.prog [("math/bits.deBruijn64tab", Lib.tabData .u8 tabInts)] W := by
    rw [← tab_laid]; exact h
  have ht := Lib.tabIs_of_head tabNamed tabTyped Tryd.underlying62 Tryd.underlying5 (by kernel_rfl) (by kernel_rfl) h'
  intro j hj
  have := ht.cell tabNamed j (by unfold tabInts; rw [List.length_map]; exact hj)
  rw [this]
  congr 2
  unfold tabInts
  rw [List.getD_eq_getElem?_getD, List.getElem?_map, List.getD_eq_getElem?_getD]
  cases h : Lib.deBruijn64tab[j]? with
  | none => exact absurd (List.getElem?_eq_none_iff.1 h) (by show ¬ 64 ≤ j; omega)
  | some x => rfl
/-- a world that meets the condition -/
noncomputable def laidWorld (os : Os) : World :=
  { World.holding Tryd.prog os ⟨#[], #[], []⟩ with heap := (World.holding Tryd.prog os ⟨#[], #[], []⟩).heap.modify 0 fun
      | .cells _ t frozen => .cells (tabInts.map fun z => Value.int .u8 z).toArray t frozen
      | o => o }
theorem laidWorld_met (os : Os) (args : Array Value) : laidMetH Tryd.prog [("math/bits.deBruijn64tab", Rows.laid_math_bits_deBruijn64tab)] ((laidWorld os).forCall (fun _ _ => 0) ⟨#[], args, []⟩).memory :=
  show laidMet Tryd.prog [("math/bits.deBruijn64tab", Rows.laid_math_bits_deBruijn64tab)] _ from laidMet_of_run' 8 (by kernel_rfl) (by kernel_rfl)
end Go.Proofs.YtlpgflmjpdhpnaaDoor
