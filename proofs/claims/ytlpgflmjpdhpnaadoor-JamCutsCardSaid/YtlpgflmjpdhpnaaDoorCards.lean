/-
  DERIVED. GIVEN WITH THE SEED: THE CARDS: each row of YtlpgflmjpdhpnaaDoorRows.lean that lists a variable, with what it lists TIED to the program's text (the seventh form; the later family's looks); each row that meets fmt, with fmt's text TOLD by the authors' own Lean function (tested against real Go, not proved from fmt's source: count such statements apart). THE CARD IS WHAT COUNTS. Prove the row's statement (the work); the ties are given (YtlpgflmjpdhpnaaDoorTie.lean); close each card by the builder's one call (the guide's Derived/Test/ToyasCard.lean, 'card_holds'). Laid BY PROGRAM, IN A SANDBOX (cutbox-door.mjs). By AI agents, Wed Nov 11 2026. No macro, syntax, notation, axiom, sorry.
-/
import Derived.Test.YtlpgflmjpdhpnaaDoorRows
import GoSem.ClaimSeven
namespace Go.Proofs.YtlpgflmjpdhpnaaDoor
namespace Rows

/-- THE TIED CARD OF 'abacuslaw04.JamCuts'. -/
def jamCutsCard : Claim7 := { stood := { row := jamCutsRow, standIns := [], harness := (true, "5362f91e76b4c666d343ee7b34d01b71422ab251589ee6428315e446c5f2f07d"), looks := false }, kinds := [], alts := [], laidByText := true, laidKinds := [.data], laidTests := true, laidLooks := .later }
def JamCutsCardSaid : Prop := Claim7.holds Tryd.pinned (.plain (OpenSpec.ofChange jamCutsSpec)) jamCutsCard

/-- THE TIED CARD OF 'abacuslaw04.JamTwice'. -/
def jamTwiceCard : Claim7 := { stood := { row := jamTwiceRow, standIns := [], harness := (true, "5362f91e76b4c666d343ee7b34d01b71422ab251589ee6428315e446c5f2f07d"), looks := false }, kinds := [], alts := [], laidByText := true, laidKinds := [.data], laidTests := true, laidLooks := .later }
def JamTwiceCardSaid : Prop := Claim7.holds Tryd.pinned (.plain (OpenSpec.ofChange jamTwiceSpec)) jamTwiceCard

/-- THE TIED CARD OF 'abacuslaw04.JamRights'. -/
def jamRightsCard : Claim7 := { stood := { row := jamRightsRow, standIns := [], harness := (true, "5362f91e76b4c666d343ee7b34d01b71422ab251589ee6428315e446c5f2f07d"), looks := false }, kinds := [], alts := [], laidByText := true, laidKinds := [.data], laidTests := true, laidLooks := .later }
def JamRightsCardSaid : Prop := Claim7.holds Tryd.pinned (.plain (OpenSpec.ofChange jamRightsSpec)) jamRightsCard

/-- THE TIED CARD OF 'abacuslaw04.JamTops'. -/
def jamTopsCard : Claim7 := { stood := { row := jamTopsRow, standIns := [], harness := (true, "5362f91e76b4c666d343ee7b34d01b71422ab251589ee6428315e446c5f2f07d"), looks := false }, kinds := [], alts := [], laidByText := true, laidKinds := [.data], laidTests := true, laidLooks := .later }
def JamTopsCardSaid : Prop := Claim7.holds Tryd.pinned (.plain (OpenSpec.ofChange jamTopsSpec)) jamTopsCard

/-- THE TIED CARD OF 'abacuslaw04.JamLeft'. -/
def jamLeftCard : Claim7 := { stood := { row := jamLeftRow, standIns := [], harness := (true, "5362f91e76b4c666d343ee7b34d01b71422ab251589ee6428315e446c5f2f07d"), looks := false }, kinds := [], alts := [], laidByText := true, laidKinds := [.data], laidTests := true, laidLooks := .later }
def JamLeftCardSaid : Prop := Claim7.holds Tryd.pinned (.plain (OpenSpec.ofChange jamLeftSpec)) jamLeftCard

/-- THE TIED CARD OF 'abacuslaw04.JamParts'. -/
def jamPartsCard : Claim7 := { stood := { row := jamPartsRow, standIns := [], harness := (true, "5362f91e76b4c666d343ee7b34d01b71422ab251589ee6428315e446c5f2f07d"), looks := false }, kinds := [], alts := [], laidByText := true, laidKinds := [.data], laidTests := true, laidLooks := .later }
def JamPartsCardSaid : Prop := Claim7.holds Tryd.pinned (.plain (OpenSpec.ofChange jamPartsSpec)) jamPartsCard

/-- THE TIED CARD OF 'abacuslaw02.WideShifts'. -/
def wideShiftsCard : Claim7 := { stood := { row := wideShiftsRow, standIns := [], harness := (true, "5362f91e76b4c666d343ee7b34d01b71422ab251589ee6428315e446c5f2f07d"), looks := false }, kinds := [], alts := [], laidByText := true, laidKinds := [.data], laidTests := true, laidLooks := .later }
def WideShiftsCardSaid : Prop := Claim7.holds Tryd.pinned (.plain (OpenSpec.ofChange wideShiftsSpec)) wideShiftsCard

/-- THE TIED CARD OF 'abacuslaw02.WideBits'. -/
def wideBitsCard : Claim7 := { stood := { row := wideBitsRow, standIns := [], harness := (true, "5362f91e76b4c666d343ee7b34d01b71422ab251589ee6428315e446c5f2f07d"), looks := false }, kinds := [], alts := [], laidByText := true, laidKinds := [.data], laidTests := true, laidLooks := .later }
def WideBitsCardSaid : Prop := Claim7.holds Tryd.pinned (.plain (OpenSpec.ofChange wideBitsSpec)) wideBitsCard

/-- THE TIED CARD OF 'abacuslaw02.WideBack'. -/
def wideBackCard : Claim7 := { stood := { row := wideBackRow, standIns := [], harness := (true, "5362f91e76b4c666d343ee7b34d01b71422ab251589ee6428315e446c5f2f07d"), looks := false }, kinds := [], alts := [], laidByText := true, laidKinds := [.data], laidTests := true, laidLooks := .later }
def WideBackCardSaid : Prop := Claim7.holds Tryd.pinned (.plain (OpenSpec.ofChange wideBackSpec)) wideBackCard

/-- THE SECOND FORM's CARD OF 'abacuslaw04.JamCuts'. -/
def jamCutsUptoCard : Claim7 := { stood := { row := jamCutsUptoRow, standIns := [], harness := (true, "5362f91e76b4c666d343ee7b34d01b71422ab251589ee6428315e446c5f2f07d"), looks := false }, kinds := [], alts := [], laidByText := true, laidKinds := [.data], laidTests := true, laidLooks := .later }
def JamCutsUptoCardSaid : Prop := Claim7.holds Tryd.pinned (.plain (OpenSpec.upto jamCutsSpec)) jamCutsUptoCard

/-- THE SECOND FORM's CARD OF 'abacuslaw04.JamTwice'. -/
def jamTwiceUptoCard : Claim7 := { stood := { row := jamTwiceUptoRow, standIns := [], harness := (true, "5362f91e76b4c666d343ee7b34d01b71422ab251589ee6428315e446c5f2f07d"), looks := false }, kinds := [], alts := [], laidByText := true, laidKinds := [.data], laidTests := true, laidLooks := .later }
def JamTwiceUptoCardSaid : Prop := Claim7.holds Tryd.pinned (.plain (OpenSpec.upto jamTwiceSpec)) jamTwiceUptoCard

/-- THE SECOND FORM's CARD OF 'abacuslaw04.JamRights'. -/
def jamRightsUptoCard : Claim7 := { stood := { row := jamRightsUptoRow, standIns := [], harness := (true, "5362f91e76b4c666d343ee7b34d01b71422ab251589ee6428315e446c5f2f07d"), looks := false }, kinds := [], alts := [], laidByText := true, laidKinds := [.data], laidTests := true, laidLooks := .later }
def JamRightsUptoCardSaid : Prop := Claim7.holds Tryd.pinned (.plain (OpenSpec.upto jamRightsSpec)) jamRightsUptoCard

/-- THE SECOND FORM's CARD OF 'abacuslaw04.JamTops'. -/
def jamTopsUptoCard : Claim7 := { stood := { row := jamTopsUptoRow, standIns := [], harness := (true, "5362f91e76b4c666d343ee7b34d01b71422ab251589ee6428315e446c5f2f07d"), looks := false }, kinds := [], alts := [], laidByText := true, laidKinds := [.data], laidTests := true, laidLooks := .later }
def JamTopsUptoCardSaid : Prop := Claim7.holds Tryd.pinned (.plain (OpenSpec.upto jamTopsSpec)) jamTopsUptoCard

/-- THE SECOND FORM's CARD OF 'abacuslaw04.JamLeft'. -/
def jamLeftUptoCard : Claim7 := { stood := { row := jamLeftUptoRow, standIns := [], harness := (true, "5362f91e76b4c666d343ee7b34d01b71422ab251589ee6428315e446c5f2f07d"), looks := false }, kinds := [], alts := [], laidByText := true, laidKinds := [.data], laidTests := true, laidLooks := .later }
def JamLeftUptoCardSaid : Prop := Claim7.holds Tryd.pinned (.plain (OpenSpec.upto jamLeftSpec)) jamLeftUptoCard

/-- THE SECOND FORM's CARD OF 'abacuslaw04.JamParts'. -/
def jamPartsUptoCard : Claim7 := { stood := { row := jamPartsUptoRow, standIns := [], harness := (true, "5362f91e76b4c666d343ee7b34d01b71422ab251589ee6428315e446c5f2f07d"), looks := false }, kinds := [], alts := [], laidByText := true, laidKinds := [.data], laidTests := true, laidLooks := .later }
def JamPartsUptoCardSaid : Prop := Claim7.holds Tryd.pinned (.plain (OpenSpec.upto jamPartsSpec)) jamPartsUptoCard

/-- THE SECOND FORM's CARD OF 'abacuslaw02.WideShifts'. -/
def wideShiftsUptoCard : Claim7 := { stood := { row := wideShiftsUptoRow, standIns := [], harness := (true, "5362f91e76b4c666d343ee7b34d01b71422ab251589ee6428315e446c5f2f07d"), looks := false }, kinds := [], alts := [], laidByText := true, laidKinds := [.data], laidTests := true, laidLooks := .later }
def WideShiftsUptoCardSaid : Prop := Claim7.holds Tryd.pinned (.plain (OpenSpec.upto wideShiftsSpec)) wideShiftsUptoCard

/-- THE SECOND FORM's CARD OF 'abacuslaw02.WideBits'. -/
def wideBitsUptoCard : Claim7 := { stood := { row := wideBitsUptoRow, standIns := [], harness := (true, "5362f91e76b4c666d343ee7b34d01b71422ab251589ee6428315e446c5f2f07d"), looks := false }, kinds := [], alts := [], laidByText := true, laidKinds := [.data], laidTests := true, laidLooks := .later }
def WideBitsUptoCardSaid : Prop := Claim7.holds Tryd.pinned (.plain (OpenSpec.upto wideBitsSpec)) wideBitsUptoCard

/-- THE SECOND FORM's CARD OF 'abacuslaw02.WideBack'. -/
def wideBackUptoCard : Claim7 := { stood := { row := wideBackUptoRow, standIns := [], harness := (true, "5362f91e76b4c666d343ee7b34d01b71422ab251589ee6428315e446c5f2f07d"), looks := false }, kinds := [], alts := [], laidByText := true, laidKinds := [.data], laidTests := true, laidLooks := .later }
def WideBackUptoCardSaid : Prop := Claim7.holds Tryd.pinned (.plain (OpenSpec.upto wideBackSpec)) wideBackUptoCard
end Rows
end Go.Proofs.YtlpgflmjpdhpnaaDoor
