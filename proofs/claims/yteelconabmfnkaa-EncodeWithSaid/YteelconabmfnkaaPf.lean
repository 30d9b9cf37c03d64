/- Small plain facts. -/
import Derived.Test.YteelconabmfnkaaTh
namespace Go.Proofs.Yteelconabmfnkaa
open Go Go.RowKit
/-- the error where nothing was found -/
def errOf {α : Type} (o : Option α) : Int := match o with | some _ => 0 | none => 240
theorem beq_cast (a b : Nat) : ((a : Int) == (b : Int)) = (a == b) := by
  rw [Bool.eq_iff_iff]
  simp only [beq_iff_eq]
  omega
end Go.Proofs.Yteelconabmfnkaa
