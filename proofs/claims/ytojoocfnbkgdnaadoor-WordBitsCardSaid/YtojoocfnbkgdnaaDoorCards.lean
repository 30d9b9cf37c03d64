/-
  DERIVED. GIVEN WITH THE SEED: THE CARDS: each row of YtojoocfnbkgdnaaDoorRows.lean that lists a variable, with what it lists TIED to the program's text (the seventh form; the later family's looks); each row that meets fmt, with fmt's text TOLD by the authors' own Lean function (tested against real Go, not proved from fmt's source: count such statements apart). THE CARD IS WHAT COUNTS. Prove the row's statement (the work); the ties are given (YtojoocfnbkgdnaaDoorTie.lean); close each card by the builder's one call (the guide's Derived/Test/ToyasCard.lean, 'card_holds'). Laid BY PROGRAM, IN A SANDBOX (cutbox-door.mjs). By AI agents, Wed Nov 11 2026. No macro, syntax, notation, axiom, sorry.
-/
import Derived.Test.YtojoocfnbkgdnaaDoorRows
import GoSem.ClaimSeven
namespace Go.Proofs.YtojoocfnbkgdnaaDoor
namespace Rows

/-- THE TIED CARD OF 'abacuslaw01.WordBits'. -/
def wordBitsCard : Claim7 := { stood := { row := wordBitsRow, standIns := [], harness := (true, "8ef7b2ef98c1e1934c11d86e52f36e3a11aa89b9b929c31dfdcb9ae9a9fab828"), looks := false }, kinds := [], alts := [], laidByText := true, laidKinds := [.data], laidTests := true, laidLooks := .later }
def WordBitsCardSaid : Prop := Claim7.holds Tryd.pinned (.plain (OpenSpec.ofChange wordBitsSpec)) wordBitsCard

/-- THE SECOND FORM's CARD OF 'abacuslaw01.WordBits'. -/
def wordBitsUptoCard : Claim7 := { stood := { row := wordBitsUptoRow, standIns := [], harness := (true, "8ef7b2ef98c1e1934c11d86e52f36e3a11aa89b9b929c31dfdcb9ae9a9fab828"), looks := false }, kinds := [], alts := [], laidByText := true, laidKinds := [.data], laidTests := true, laidLooks := .later }
def WordBitsUptoCardSaid : Prop := Claim7.holds Tryd.pinned (.plain (OpenSpec.upto wordBitsSpec)) wordBitsUptoCard
end Rows
end Go.Proofs.YtojoocfnbkgdnaaDoor
