/-
  NARROWER THAN 'FOR EVERY INPUT', by the rows' own cells (each row's printed sentence says how): JamCuts: laid · JamTwice: laid · JamRights: laid · JamTops: laid · JamLeft: laid · JamParts: laid · WideShifts: laid · WideBits: laid · WideBack: laid.
  DERIVED. THE GIVEN ROWS OF THIS SEAT. 9 by the template 'for every input the law returns true; each argument reads behind the call as it read before'; 0 by the template 'total and deterministic' (their statements: YtlpgflmjpdhpnaaDoorTotals.lean).
  GIVEN WITH THE SEED: the statements are not yours to turn. If you find one false, say at which input.
  Laid BY PROGRAM, IN A SANDBOX (cutbox-rows.mjs): the forced cells as the released guide's own fill.sh prints them over the translation 6f161a58febf5716… (all of the seat's roots in one cut). By AI agents, Wed Nov 11 2026. No macro, syntax, notation, axiom, sorry.
-/
import Derived.Test.YtlpgflmjpdhpnaaDoorChecked
import GoSem.Claim
import GoSem.ClaimJoined
import GoSem.ClaimMapViews
import Derived.JoinedTies
import Derived.KernelRfl
namespace Go.Proofs.YtlpgflmjpdhpnaaDoor
/- THE CELL 'sum', in the pinned program and in every row, IS THE sha256 OF THE DUMP (.gsa) THAT YtlpgflmjpdhpnaaDoorProg.lean LOADS. Nothing in Lean hashes anything: it is a label: what it is worth is what the hold of that sum in a sandbox is worth. -/
noncomputable def Tryd.pinned : Pinned := { name := "ytlpgflmjpdhpnaadoor", sum := "6f161a58febf5716da51cd406a635964524e9b5592ab5abf152add67a9a1f9ec", checked := Tryd.checked }
namespace Rows
def none {H : Type} : Left H := { results := [], args := [] }

/- WHAT THE LISTED PACKAGE-LEVEL VARIABLES READ AS WHEN THE CALL BEGINS. Each datum BY PROGRAM (the guide's laid-datum.mjs) off the statement by which the dump's own 'gosem.cut.vars' lays the variable. In a bare row this is a premise. The card (YtlpgflmjpdhpnaaDoorCards.lean) ties it to the program's text. -/
def laid_math_bits_deBruijn64tab {H : Type} : DataW H := .agg [.lit (.int .u8 0), .lit (.int .u8 1), .lit (.int .u8 56), .lit (.int .u8 2), .lit (.int .u8 57), .lit (.int .u8 49), .lit (.int .u8 28), .lit (.int .u8 3), .lit (.int .u8 61), .lit (.int .u8 58), .lit (.int .u8 42), .lit (.int .u8 50), .lit (.int .u8 38), .lit (.int .u8 29), .lit (.int .u8 17), .lit (.int .u8 4), .lit (.int .u8 62), .lit (.int .u8 47), .lit (.int .u8 59), .lit (.int .u8 36), .lit (.int .u8 45), .lit (.int .u8 43), .lit (.int .u8 51), .lit (.int .u8 22), .lit (.int .u8 53), .lit (.int .u8 39), .lit (.int .u8 33), .lit (.int .u8 30), .lit (.int .u8 24), .lit (.int .u8 18), .lit (.int .u8 12), .lit (.int .u8 5), .lit (.int .u8 63), .lit (.int .u8 55), .lit (.int .u8 48), .lit (.int .u8 27), .lit (.int .u8 60), .lit (.int .u8 41), .lit (.int .u8 37), .lit (.int .u8 16), .lit (.int .u8 46), .lit (.int .u8 35), .lit (.int .u8 44), .lit (.int .u8 21), .lit (.int .u8 52), .lit (.int .u8 32), .lit (.int .u8 23), .lit (.int .u8 11), .lit (.int .u8 54), .lit (.int .u8 26), .lit (.int .u8 40), .lit (.int .u8 15), .lit (.int .u8 34), .lit (.int .u8 20), .lit (.int .u8 31), .lit (.int .u8 10), .lit (.int .u8 25), .lit (.int .u8 14), .lit (.int .u8 19), .lit (.int .u8 9), .lit (.int .u8 13), .lit (.int .u8 8), .lit (.int .u8 7), .lit (.int .u8 6)]

/-- 'abacuslaw04.JamCuts': WHATEVER THE INPUT: true; the input reads as it did. -/
def jamCutsSpec : ChangeSpec := { name := "jamCuts", fn := fun _ => fun
  | [d1, d2] => { results := [.lit (.bool true)], args := [d1, d2] }
  | _ => none }
def jamCutsRow : OpenClaim := { program := "ytlpgflmjpdhpnaadoor", sum := "6f161a58febf5716da51cd406a635964524e9b5592ab5abf152add67a9a1f9ec", func := "abacus/abacuslaw04.JamCuts", spec := "jamCuts", named := ["math/bits.deBruijn64tab"], apart := false, laid := [("math/bits.deBruijn64tab", laid_math_bits_deBruijn64tab)] }
def JamCutsSaid : Prop := jamCutsRow.holds Tryd.pinned (OpenSpec.ofChange jamCutsSpec)

/-- ITS FALSE NEIGHBOUR: 'it returns false'. Refute it at one input. -/
def jamCutsWrong : ChangeSpec := { name := "jamCuts", fn := fun _ => fun
  | [d1, d2] => { results := [.lit (.bool false)], args := [d1, d2] }
  | _ => none }
def JamCutsWrongFalsely : Prop := jamCutsRow.holds Tryd.pinned (OpenSpec.ofChange jamCutsWrong)

/-- 'abacuslaw04.JamTwice': WHATEVER THE INPUT: true; the input reads as it did. -/
def jamTwiceSpec : ChangeSpec := { name := "jamTwice", fn := fun _ => fun
  | [d1, d2, d3] => { results := [.lit (.bool true)], args := [d1, d2, d3] }
  | _ => none }
def jamTwiceRow : OpenClaim := { program := "ytlpgflmjpdhpnaadoor", sum := "6f161a58febf5716da51cd406a635964524e9b5592ab5abf152add67a9a1f9ec", func := "abacus/abacuslaw04.JamTwice", spec := "jamTwice", named := ["math/bits.deBruijn64tab"], apart := false, laid := [("math/bits.deBruijn64tab", laid_math_bits_deBruijn64tab)] }
def JamTwiceSaid : Prop := jamTwiceRow.holds Tryd.pinned (OpenSpec.ofChange jamTwiceSpec)

/-- ITS FALSE NEIGHBOUR: 'it returns false'. Refute it at one input. -/
def jamTwiceWrong : ChangeSpec := { name := "jamTwice", fn := fun _ => fun
  | [d1, d2, d3] => { results := [.lit (.bool false)], args := [d1, d2, d3] }
  | _ => none }
def JamTwiceWrongFalsely : Prop := jamTwiceRow.holds Tryd.pinned (OpenSpec.ofChange jamTwiceWrong)

/-- 'abacuslaw04.JamRights': WHATEVER THE INPUT: true; the input reads as it did. -/
def jamRightsSpec : ChangeSpec := { name := "jamRights", fn := fun _ => fun
  | [d1, d2] => { results := [.lit (.bool true)], args := [d1, d2] }
  | _ => none }
def jamRightsRow : OpenClaim := { program := "ytlpgflmjpdhpnaadoor", sum := "6f161a58febf5716da51cd406a635964524e9b5592ab5abf152add67a9a1f9ec", func := "abacus/abacuslaw04.JamRights", spec := "jamRights", named := ["math/bits.deBruijn64tab"], apart := false, laid := [("math/bits.deBruijn64tab", laid_math_bits_deBruijn64tab)] }
def JamRightsSaid : Prop := jamRightsRow.holds Tryd.pinned (OpenSpec.ofChange jamRightsSpec)

/-- ITS FALSE NEIGHBOUR: 'it returns false'. Refute it at one input. -/
def jamRightsWrong : ChangeSpec := { name := "jamRights", fn := fun _ => fun
  | [d1, d2] => { results := [.lit (.bool false)], args := [d1, d2] }
  | _ => none }
def JamRightsWrongFalsely : Prop := jamRightsRow.holds Tryd.pinned (OpenSpec.ofChange jamRightsWrong)

/-- 'abacuslaw04.JamTops': WHATEVER THE INPUT: true; the input reads as it did. -/
def jamTopsSpec : ChangeSpec := { name := "jamTops", fn := fun _ => fun
  | [d1, d2] => { results := [.lit (.bool true)], args := [d1, d2] }
  | _ => none }
def jamTopsRow : OpenClaim := { program := "ytlpgflmjpdhpnaadoor", sum := "6f161a58febf5716da51cd406a635964524e9b5592ab5abf152add67a9a1f9ec", func := "abacus/abacuslaw04.JamTops", spec := "jamTops", named := ["math/bits.deBruijn64tab"], apart := false, laid := [("math/bits.deBruijn64tab", laid_math_bits_deBruijn64tab)] }
def JamTopsSaid : Prop := jamTopsRow.holds Tryd.pinned (OpenSpec.ofChange jamTopsSpec)

/-- ITS FALSE NEIGHBOUR: 'it returns false'. Refute it at one input. -/
def jamTopsWrong : ChangeSpec := { name := "jamTops", fn := fun _ => fun
  | [d1, d2] => { results := [.lit (.bool false)], args := [d1, d2] }
  | _ => none }
def JamTopsWrongFalsely : Prop := jamTopsRow.holds Tryd.pinned (OpenSpec.ofChange jamTopsWrong)

/-- 'abacuslaw04.JamLeft': WHATEVER THE INPUT: true; the input reads as it did. -/
def jamLeftSpec : ChangeSpec := { name := "jamLeft", fn := fun _ => fun
  | [d1, d2] => { results := [.lit (.bool true)], args := [d1, d2] }
  | _ => none }
def jamLeftRow : OpenClaim := { program := "ytlpgflmjpdhpnaadoor", sum := "6f161a58febf5716da51cd406a635964524e9b5592ab5abf152add67a9a1f9ec", func := "abacus/abacuslaw04.JamLeft", spec := "jamLeft", named := ["math/bits.deBruijn64tab"], apart := false, laid := [("math/bits.deBruijn64tab", laid_math_bits_deBruijn64tab)] }
def JamLeftSaid : Prop := jamLeftRow.holds Tryd.pinned (OpenSpec.ofChange jamLeftSpec)

/-- ITS FALSE NEIGHBOUR: 'it returns false'. Refute it at one input. -/
def jamLeftWrong : ChangeSpec := { name := "jamLeft", fn := fun _ => fun
  | [d1, d2] => { results := [.lit (.bool false)], args := [d1, d2] }
  | _ => none }
def JamLeftWrongFalsely : Prop := jamLeftRow.holds Tryd.pinned (OpenSpec.ofChange jamLeftWrong)

/-- 'abacuslaw04.JamParts': WHATEVER THE INPUT: true; the input reads as it did. -/
def jamPartsSpec : ChangeSpec := { name := "jamParts", fn := fun _ => fun
  | [d1, d2] => { results := [.lit (.bool true)], args := [d1, d2] }
  | _ => none }
def jamPartsRow : OpenClaim := { program := "ytlpgflmjpdhpnaadoor", sum := "6f161a58febf5716da51cd406a635964524e9b5592ab5abf152add67a9a1f9ec", func := "abacus/abacuslaw04.JamParts", spec := "jamParts", named := ["math/bits.deBruijn64tab"], apart := false, laid := [("math/bits.deBruijn64tab", laid_math_bits_deBruijn64tab)] }
def JamPartsSaid : Prop := jamPartsRow.holds Tryd.pinned (OpenSpec.ofChange jamPartsSpec)

/-- ITS FALSE NEIGHBOUR: 'it returns false'. Refute it at one input. -/
def jamPartsWrong : ChangeSpec := { name := "jamParts", fn := fun _ => fun
  | [d1, d2] => { results := [.lit (.bool false)], args := [d1, d2] }
  | _ => none }
def JamPartsWrongFalsely : Prop := jamPartsRow.holds Tryd.pinned (OpenSpec.ofChange jamPartsWrong)

/-- 'abacuslaw02.WideShifts': WHATEVER THE INPUT: true; the input reads as it did. -/
def wideShiftsSpec : ChangeSpec := { name := "wideShifts", fn := fun _ => fun
  | [d1, d2] => { results := [.lit (.bool true)], args := [d1, d2] }
  | _ => none }
def wideShiftsRow : OpenClaim := { program := "ytlpgflmjpdhpnaadoor", sum := "6f161a58febf5716da51cd406a635964524e9b5592ab5abf152add67a9a1f9ec", func := "abacus/abacuslaw02.WideShifts", spec := "wideShifts", named := ["math/bits.deBruijn64tab"], apart := false, laid := [("math/bits.deBruijn64tab", laid_math_bits_deBruijn64tab)] }
def WideShiftsSaid : Prop := wideShiftsRow.holds Tryd.pinned (OpenSpec.ofChange wideShiftsSpec)

/-- ITS FALSE NEIGHBOUR: 'it returns false'. Refute it at one input. -/
def wideShiftsWrong : ChangeSpec := { name := "wideShifts", fn := fun _ => fun
  | [d1, d2] => { results := [.lit (.bool false)], args := [d1, d2] }
  | _ => none }
def WideShiftsWrongFalsely : Prop := wideShiftsRow.holds Tryd.pinned (OpenSpec.ofChange wideShiftsWrong)

/-- 'abacuslaw02.WideBits': WHATEVER THE INPUT: true; the input reads as it did. -/
def wideBitsSpec : ChangeSpec := { name := "wideBits", fn := fun _ => fun
  | [d1, d2, d3] => { results := [.lit (.bool true)], args := [d1, d2, d3] }
  | _ => none }
def wideBitsRow : OpenClaim := { program := "ytlpgflmjpdhpnaadoor", sum := "6f161a58febf5716da51cd406a635964524e9b5592ab5abf152add67a9a1f9ec", func := "abacus/abacuslaw02.WideBits", spec := "wideBits", named := ["math/bits.deBruijn64tab"], apart := false, laid := [("math/bits.deBruijn64tab", laid_math_bits_deBruijn64tab)] }
def WideBitsSaid : Prop := wideBitsRow.holds Tryd.pinned (OpenSpec.ofChange wideBitsSpec)

/-- ITS FALSE NEIGHBOUR: 'it returns false'. Refute it at one input. -/
def wideBitsWrong : ChangeSpec := { name := "wideBits", fn := fun _ => fun
  | [d1, d2, d3] => { results := [.lit (.bool false)], args := [d1, d2, d3] }
  | _ => none }
def WideBitsWrongFalsely : Prop := wideBitsRow.holds Tryd.pinned (OpenSpec.ofChange wideBitsWrong)

/-- 'abacuslaw02.WideBack': WHATEVER THE INPUT: true; the input reads as it did. -/
def wideBackSpec : ChangeSpec := { name := "wideBack", fn := fun _ => fun
  | [d1, d2] => { results := [.lit (.bool true)], args := [d1, d2] }
  | _ => none }
def wideBackRow : OpenClaim := { program := "ytlpgflmjpdhpnaadoor", sum := "6f161a58febf5716da51cd406a635964524e9b5592ab5abf152add67a9a1f9ec", func := "abacus/abacuslaw02.WideBack", spec := "wideBack", named := ["math/bits.deBruijn64tab"], apart := false, laid := [("math/bits.deBruijn64tab", laid_math_bits_deBruijn64tab)] }
def WideBackSaid : Prop := wideBackRow.holds Tryd.pinned (OpenSpec.ofChange wideBackSpec)

/-- ITS FALSE NEIGHBOUR: 'it returns false'. Refute it at one input. -/
def wideBackWrong : ChangeSpec := { name := "wideBack", fn := fun _ => fun
  | [d1, d2] => { results := [.lit (.bool false)], args := [d1, d2] }
  | _ => none }
def WideBackWrongFalsely : Prop := wideBackRow.holds Tryd.pinned (OpenSpec.ofChange wideBackWrong)

/- THE SECOND FORM. 'bulk': how many values and letters a reading holds, each counted each time it is reached (what is shared counts as often as it is met; a slice's spare places count too). A statement '..UptoSaid' is the law's where the arguments, and the package variables that the reading takes, are together of bulk at most 1048576: NARROWER than '..Said'. Prove '..Said' where nothing that the law and all that it calls make is longer than what came in: it says more and counts as full. Else prove '..UptoSaid'. A law counts once. -/
mutual
def uptoBulk {H : Type} : DataW H → Nat
  | .lit (.string bytes) => bytes.length + 1
  | .lit _ => 1
  | .nil => 1
  | .ptr d => uptoBulk d + 1
  | .slice elems spare => uptoBulkAll elems + uptoBulkAll spare + 1
  | .agg parts => uptoBulkAll parts + 1
  | .iface _ d => uptoBulk d + 1
  | .map entries => uptoBulkEntries entries + 1
  | .held _ => 1
def uptoBulkAll {H : Type} : List (DataW H) → Nat
  | [] => 0
  | d :: r => uptoBulk d + uptoBulkAll r
def uptoBulkEntries {H : Type} : List (Lit × DataW H) → Nat
  | [] => 0
  | x :: r => uptoBulkEntry x + uptoBulkEntries r
def uptoBulkEntry {H : Type} : Lit × DataW H → Nat
  | (.string bytes, d) => bytes.length + uptoBulk d + 1
  | (_, d) => uptoBulk d + 1
 end
def uptoSmall : (H : Type) → List (DataW H) → Bool := fun _ ds => decide (uptoBulkAll ds ≤ 1048576)
def OpenSpec.upto (s : _root_.Go.ChangeSpec) : _root_.Go.OpenSpec := { _root_.Go.OpenSpec.ofChange s with cond := some uptoSmall }

/-- 'abacuslaw04.JamCuts', WHERE WHAT IT READS IS OF BULK AT MOST 1048576: true; the input reads as it did. -/
def jamCutsUptoRow : OpenClaim := { program := "ytlpgflmjpdhpnaadoor", sum := "6f161a58febf5716da51cd406a635964524e9b5592ab5abf152add67a9a1f9ec", func := "abacus/abacuslaw04.JamCuts", spec := "jamCuts", named := ["math/bits.deBruijn64tab"], apart := false, laid := [("math/bits.deBruijn64tab", laid_math_bits_deBruijn64tab)], narrowed := true }
def JamCutsUptoSaid : Prop := jamCutsUptoRow.holds Tryd.pinned (OpenSpec.upto jamCutsSpec)

/-- 'abacuslaw04.JamTwice', WHERE WHAT IT READS IS OF BULK AT MOST 1048576: true; the input reads as it did. -/
def jamTwiceUptoRow : OpenClaim := { program := "ytlpgflmjpdhpnaadoor", sum := "6f161a58febf5716da51cd406a635964524e9b5592ab5abf152add67a9a1f9ec", func := "abacus/abacuslaw04.JamTwice", spec := "jamTwice", named := ["math/bits.deBruijn64tab"], apart := false, laid := [("math/bits.deBruijn64tab", laid_math_bits_deBruijn64tab)], narrowed := true }
def JamTwiceUptoSaid : Prop := jamTwiceUptoRow.holds Tryd.pinned (OpenSpec.upto jamTwiceSpec)

/-- 'abacuslaw04.JamRights', WHERE WHAT IT READS IS OF BULK AT MOST 1048576: true; the input reads as it did. -/
def jamRightsUptoRow : OpenClaim := { program := "ytlpgflmjpdhpnaadoor", sum := "6f161a58febf5716da51cd406a635964524e9b5592ab5abf152add67a9a1f9ec", func := "abacus/abacuslaw04.JamRights", spec := "jamRights", named := ["math/bits.deBruijn64tab"], apart := false, laid := [("math/bits.deBruijn64tab", laid_math_bits_deBruijn64tab)], narrowed := true }
def JamRightsUptoSaid : Prop := jamRightsUptoRow.holds Tryd.pinned (OpenSpec.upto jamRightsSpec)

/-- 'abacuslaw04.JamTops', WHERE WHAT IT READS IS OF BULK AT MOST 1048576: true; the input reads as it did. -/
def jamTopsUptoRow : OpenClaim := { program := "ytlpgflmjpdhpnaadoor", sum := "6f161a58febf5716da51cd406a635964524e9b5592ab5abf152add67a9a1f9ec", func := "abacus/abacuslaw04.JamTops", spec := "jamTops", named := ["math/bits.deBruijn64tab"], apart := false, laid := [("math/bits.deBruijn64tab", laid_math_bits_deBruijn64tab)], narrowed := true }
def JamTopsUptoSaid : Prop := jamTopsUptoRow.holds Tryd.pinned (OpenSpec.upto jamTopsSpec)

/-- 'abacuslaw04.JamLeft', WHERE WHAT IT READS IS OF BULK AT MOST 1048576: true; the input reads as it did. -/
def jamLeftUptoRow : OpenClaim := { program := "ytlpgflmjpdhpnaadoor", sum := "6f161a58febf5716da51cd406a635964524e9b5592ab5abf152add67a9a1f9ec", func := "abacus/abacuslaw04.JamLeft", spec := "jamLeft", named := ["math/bits.deBruijn64tab"], apart := false, laid := [("math/bits.deBruijn64tab", laid_math_bits_deBruijn64tab)], narrowed := true }
def JamLeftUptoSaid : Prop := jamLeftUptoRow.holds Tryd.pinned (OpenSpec.upto jamLeftSpec)

/-- 'abacuslaw04.JamParts', WHERE WHAT IT READS IS OF BULK AT MOST 1048576: true; the input reads as it did. -/
def jamPartsUptoRow : OpenClaim := { program := "ytlpgflmjpdhpnaadoor", sum := "6f161a58febf5716da51cd406a635964524e9b5592ab5abf152add67a9a1f9ec", func := "abacus/abacuslaw04.JamParts", spec := "jamParts", named := ["math/bits.deBruijn64tab"], apart := false, laid := [("math/bits.deBruijn64tab", laid_math_bits_deBruijn64tab)], narrowed := true }
def JamPartsUptoSaid : Prop := jamPartsUptoRow.holds Tryd.pinned (OpenSpec.upto jamPartsSpec)

/-- 'abacuslaw02.WideShifts', WHERE WHAT IT READS IS OF BULK AT MOST 1048576: true; the input reads as it did. -/
def wideShiftsUptoRow : OpenClaim := { program := "ytlpgflmjpdhpnaadoor", sum := "6f161a58febf5716da51cd406a635964524e9b5592ab5abf152add67a9a1f9ec", func := "abacus/abacuslaw02.WideShifts", spec := "wideShifts", named := ["math/bits.deBruijn64tab"], apart := false, laid := [("math/bits.deBruijn64tab", laid_math_bits_deBruijn64tab)], narrowed := true }
def WideShiftsUptoSaid : Prop := wideShiftsUptoRow.holds Tryd.pinned (OpenSpec.upto wideShiftsSpec)

/-- 'abacuslaw02.WideBits', WHERE WHAT IT READS IS OF BULK AT MOST 1048576: true; the input reads as it did. -/
def wideBitsUptoRow : OpenClaim := { program := "ytlpgflmjpdhpnaadoor", sum := "6f161a58febf5716da51cd406a635964524e9b5592ab5abf152add67a9a1f9ec", func := "abacus/abacuslaw02.WideBits", spec := "wideBits", named := ["math/bits.deBruijn64tab"], apart := false, laid := [("math/bits.deBruijn64tab", laid_math_bits_deBruijn64tab)], narrowed := true }
def WideBitsUptoSaid : Prop := wideBitsUptoRow.holds Tryd.pinned (OpenSpec.upto wideBitsSpec)

/-- 'abacuslaw02.WideBack', WHERE WHAT IT READS IS OF BULK AT MOST 1048576: true; the input reads as it did. -/
def wideBackUptoRow : OpenClaim := { program := "ytlpgflmjpdhpnaadoor", sum := "6f161a58febf5716da51cd406a635964524e9b5592ab5abf152add67a9a1f9ec", func := "abacus/abacuslaw02.WideBack", spec := "wideBack", named := ["math/bits.deBruijn64tab"], apart := false, laid := [("math/bits.deBruijn64tab", laid_math_bits_deBruijn64tab)], narrowed := true }
def WideBackUptoSaid : Prop := wideBackUptoRow.holds Tryd.pinned (OpenSpec.upto wideBackSpec)

end Rows
end Go.Proofs.YtlpgflmjpdhpnaaDoor
