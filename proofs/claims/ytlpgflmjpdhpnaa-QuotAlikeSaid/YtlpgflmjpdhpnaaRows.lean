/-
  No cell of these rows narrows 'for every input' (looked for: loops, veiled, ifaces, maps, wideKeys, modest, calm, conditions, laid).
  DERIVED. THE GIVEN ROWS OF THIS SEAT. 11 by the template 'for every input the law returns true; each argument reads behind the call as it read before'; 0 by the template 'total and deterministic' (their statements: YtlpgflmjpdhpnaaTotals.lean).
  GIVEN WITH THE SEED: the statements are not yours to turn. If you find one false, say at which input.
  Laid BY PROGRAM, IN A SANDBOX (cutbox-rows.mjs): the forced cells as the released guide's own fill.sh prints them over the translation 6d41150560a382ee… (all of the seat's roots in one cut). By AI agents, Wed Nov 11 2026. No macro, syntax, notation, axiom, sorry.
-/
import Derived.Test.YtlpgflmjpdhpnaaChecked
import GoSem.Claim
import GoSem.ClaimJoined
import GoSem.ClaimMapViews
import Derived.JoinedTies
import Derived.KernelRfl
namespace Go.Proofs.Ytlpgflmjpdhpnaa
/- THE CELL 'sum', in the pinned program and in every row, IS THE sha256 OF THE DUMP (.gsa) THAT YtlpgflmjpdhpnaaProg.lean LOADS. Nothing in Lean hashes anything: it is a label: what it is worth is what the hold of that sum in a sandbox is worth. -/
noncomputable def Try.pinned : Pinned := { name := "ytlpgflmjpdhpnaa", sum := "6d41150560a382ee130b56415004b16e370b22b5472a7fdd58e37806f0615507", checked := Try.checked }
namespace Rows
def none {H : Type} : Left H := { results := [], args := [] }

/-- 'abacuslaw02.WideProducts': WHATEVER THE INPUT: true; the input reads as it did. -/
def wideProductsSpec : ChangeSpec := { name := "wideProducts", fn := fun _ => fun
  | [d1, d2] => { results := [.lit (.bool true)], args := [d1, d2] }
  | _ => none }
def wideProductsRow : OpenClaim := { program := "ytlpgflmjpdhpnaa", sum := "6d41150560a382ee130b56415004b16e370b22b5472a7fdd58e37806f0615507", func := "abacus/abacuslaw02.WideProducts", spec := "wideProducts", apart := false }
def WideProductsSaid : Prop := wideProductsRow.holds Try.pinned (OpenSpec.ofChange wideProductsSpec)

/-- ITS FALSE NEIGHBOUR: 'it returns false'. Refute it at one input. -/
def wideProductsWrong : ChangeSpec := { name := "wideProducts", fn := fun _ => fun
  | [d1, d2] => { results := [.lit (.bool false)], args := [d1, d2] }
  | _ => none }
def WideProductsWrongFalsely : Prop := wideProductsRow.holds Try.pinned (OpenSpec.ofChange wideProductsWrong)

/-- 'abacuslaw03.QuotDivides': WHATEVER THE INPUT: true; the input reads as it did. -/
def quotDividesSpec : ChangeSpec := { name := "quotDivides", fn := fun _ => fun
  | [d1, d2] => { results := [.lit (.bool true)], args := [d1, d2] }
  | _ => none }
def quotDividesRow : OpenClaim := { program := "ytlpgflmjpdhpnaa", sum := "6d41150560a382ee130b56415004b16e370b22b5472a7fdd58e37806f0615507", func := "abacus/abacuslaw03.QuotDivides", spec := "quotDivides", apart := false }
def QuotDividesSaid : Prop := quotDividesRow.holds Try.pinned (OpenSpec.ofChange quotDividesSpec)

/-- ITS FALSE NEIGHBOUR: 'it returns false'. Refute it at one input. -/
def quotDividesWrong : ChangeSpec := { name := "quotDivides", fn := fun _ => fun
  | [d1, d2] => { results := [.lit (.bool false)], args := [d1, d2] }
  | _ => none }
def QuotDividesWrongFalsely : Prop := quotDividesRow.holds Try.pinned (OpenSpec.ofChange quotDividesWrong)

/-- 'abacuslaw03.QuotRoots': WHATEVER THE INPUT: true; the input reads as it did. -/
def quotRootsSpec : ChangeSpec := { name := "quotRoots", fn := fun _ => fun
  | [d] => { results := [.lit (.bool true)], args := [d] }
  | _ => none }
def quotRootsRow : OpenClaim := { program := "ytlpgflmjpdhpnaa", sum := "6d41150560a382ee130b56415004b16e370b22b5472a7fdd58e37806f0615507", func := "abacus/abacuslaw03.QuotRoots", spec := "quotRoots", apart := false }
def QuotRootsSaid : Prop := quotRootsRow.holds Try.pinned (OpenSpec.ofChange quotRootsSpec)

/-- ITS FALSE NEIGHBOUR: 'it returns false'. Refute it at one input. -/
def quotRootsWrong : ChangeSpec := { name := "quotRoots", fn := fun _ => fun
  | [d] => { results := [.lit (.bool false)], args := [d] }
  | _ => none }
def QuotRootsWrongFalsely : Prop := quotRootsRow.holds Try.pinned (OpenSpec.ofChange quotRootsWrong)

/-- 'abacuslaw02.WideSums': WHATEVER THE INPUT: true; the input reads as it did. -/
def wideSumsSpec : ChangeSpec := { name := "wideSums", fn := fun _ => fun
  | [d1, d2] => { results := [.lit (.bool true)], args := [d1, d2] }
  | _ => none }
def wideSumsRow : OpenClaim := { program := "ytlpgflmjpdhpnaa", sum := "6d41150560a382ee130b56415004b16e370b22b5472a7fdd58e37806f0615507", func := "abacus/abacuslaw02.WideSums", spec := "wideSums", apart := false }
def WideSumsSaid : Prop := wideSumsRow.holds Try.pinned (OpenSpec.ofChange wideSumsSpec)

/-- ITS FALSE NEIGHBOUR: 'it returns false'. Refute it at one input. -/
def wideSumsWrong : ChangeSpec := { name := "wideSums", fn := fun _ => fun
  | [d1, d2] => { results := [.lit (.bool false)], args := [d1, d2] }
  | _ => none }
def WideSumsWrongFalsely : Prop := wideSumsRow.holds Try.pinned (OpenSpec.ofChange wideSumsWrong)

/-- 'abacuslaw02.WideRing': WHATEVER THE INPUT: true; the input reads as it did. -/
def wideRingSpec : ChangeSpec := { name := "wideRing", fn := fun _ => fun
  | [d1, d2, d3] => { results := [.lit (.bool true)], args := [d1, d2, d3] }
  | _ => none }
def wideRingRow : OpenClaim := { program := "ytlpgflmjpdhpnaa", sum := "6d41150560a382ee130b56415004b16e370b22b5472a7fdd58e37806f0615507", func := "abacus/abacuslaw02.WideRing", spec := "wideRing", apart := false }
def WideRingSaid : Prop := wideRingRow.holds Try.pinned (OpenSpec.ofChange wideRingSpec)

/-- ITS FALSE NEIGHBOUR: 'it returns false'. Refute it at one input. -/
def wideRingWrong : ChangeSpec := { name := "wideRing", fn := fun _ => fun
  | [d1, d2, d3] => { results := [.lit (.bool false)], args := [d1, d2, d3] }
  | _ => none }
def WideRingWrongFalsely : Prop := wideRingRow.holds Try.pinned (OpenSpec.ofChange wideRingWrong)

/-- 'abacuslaw03.QuotDigits': WHATEVER THE INPUT: true; the input reads as it did. -/
def quotDigitsSpec : ChangeSpec := { name := "quotDigits", fn := fun _ => fun
  | [d1, d2, d3] => { results := [.lit (.bool true)], args := [d1, d2, d3] }
  | _ => none }
def quotDigitsRow : OpenClaim := { program := "ytlpgflmjpdhpnaa", sum := "6d41150560a382ee130b56415004b16e370b22b5472a7fdd58e37806f0615507", func := "abacus/abacuslaw03.QuotDigits", spec := "quotDigits", apart := false }
def QuotDigitsSaid : Prop := quotDigitsRow.holds Try.pinned (OpenSpec.ofChange quotDigitsSpec)

/-- ITS FALSE NEIGHBOUR: 'it returns false'. Refute it at one input. -/
def quotDigitsWrong : ChangeSpec := { name := "quotDigits", fn := fun _ => fun
  | [d1, d2, d3] => { results := [.lit (.bool false)], args := [d1, d2, d3] }
  | _ => none }
def QuotDigitsWrongFalsely : Prop := quotDigitsRow.holds Try.pinned (OpenSpec.ofChange quotDigitsWrong)

/-- 'abacuslaw02.WideMakes': WHATEVER THE INPUT: true; the input reads as it did. -/
def wideMakesSpec : ChangeSpec := { name := "wideMakes", fn := fun _ => fun
  | [d1, d2, d3, d4] => { results := [.lit (.bool true)], args := [d1, d2, d3, d4] }
  | _ => none }
def wideMakesRow : OpenClaim := { program := "ytlpgflmjpdhpnaa", sum := "6d41150560a382ee130b56415004b16e370b22b5472a7fdd58e37806f0615507", func := "abacus/abacuslaw02.WideMakes", spec := "wideMakes", apart := false }
def WideMakesSaid : Prop := wideMakesRow.holds Try.pinned (OpenSpec.ofChange wideMakesSpec)

/-- ITS FALSE NEIGHBOUR: 'it returns false'. Refute it at one input. -/
def wideMakesWrong : ChangeSpec := { name := "wideMakes", fn := fun _ => fun
  | [d1, d2, d3, d4] => { results := [.lit (.bool false)], args := [d1, d2, d3, d4] }
  | _ => none }
def WideMakesWrongFalsely : Prop := wideMakesRow.holds Try.pinned (OpenSpec.ofChange wideMakesWrong)

/-- 'abacuslaw02.WideTexts': WHATEVER THE INPUT: true; the input reads as it did. -/
def wideTextsSpec : ChangeSpec := { name := "wideTexts", fn := fun _ => fun
  | [d1, d2] => { results := [.lit (.bool true)], args := [d1, d2] }
  | _ => none }
def wideTextsRow : OpenClaim := { program := "ytlpgflmjpdhpnaa", sum := "6d41150560a382ee130b56415004b16e370b22b5472a7fdd58e37806f0615507", func := "abacus/abacuslaw02.WideTexts", spec := "wideTexts", apart := false }
def WideTextsSaid : Prop := wideTextsRow.holds Try.pinned (OpenSpec.ofChange wideTextsSpec)

/-- ITS FALSE NEIGHBOUR: 'it returns false'. Refute it at one input. -/
def wideTextsWrong : ChangeSpec := { name := "wideTexts", fn := fun _ => fun
  | [d1, d2] => { results := [.lit (.bool false)], args := [d1, d2] }
  | _ => none }
def WideTextsWrongFalsely : Prop := wideTextsRow.holds Try.pinned (OpenSpec.ofChange wideTextsWrong)

/-- 'abacuslaw03.QuotWhole': WHATEVER THE INPUT: true; the input reads as it did. -/
def quotWholeSpec : ChangeSpec := { name := "quotWhole", fn := fun _ => fun
  | [d1, d2] => { results := [.lit (.bool true)], args := [d1, d2] }
  | _ => none }
def quotWholeRow : OpenClaim := { program := "ytlpgflmjpdhpnaa", sum := "6d41150560a382ee130b56415004b16e370b22b5472a7fdd58e37806f0615507", func := "abacus/abacuslaw03.QuotWhole", spec := "quotWhole", apart := false }
def QuotWholeSaid : Prop := quotWholeRow.holds Try.pinned (OpenSpec.ofChange quotWholeSpec)

/-- ITS FALSE NEIGHBOUR: 'it returns false'. Refute it at one input. -/
def quotWholeWrong : ChangeSpec := { name := "quotWhole", fn := fun _ => fun
  | [d1, d2] => { results := [.lit (.bool false)], args := [d1, d2] }
  | _ => none }
def QuotWholeWrongFalsely : Prop := quotWholeRow.holds Try.pinned (OpenSpec.ofChange quotWholeWrong)

/-- 'abacuslaw03.QuotSquares': WHATEVER THE INPUT: true; the input reads as it did. -/
def quotSquaresSpec : ChangeSpec := { name := "quotSquares", fn := fun _ => fun
  | [d] => { results := [.lit (.bool true)], args := [d] }
  | _ => none }
def quotSquaresRow : OpenClaim := { program := "ytlpgflmjpdhpnaa", sum := "6d41150560a382ee130b56415004b16e370b22b5472a7fdd58e37806f0615507", func := "abacus/abacuslaw03.QuotSquares", spec := "quotSquares", apart := false }
def QuotSquaresSaid : Prop := quotSquaresRow.holds Try.pinned (OpenSpec.ofChange quotSquaresSpec)

/-- ITS FALSE NEIGHBOUR: 'it returns false'. Refute it at one input. -/
def quotSquaresWrong : ChangeSpec := { name := "quotSquares", fn := fun _ => fun
  | [d] => { results := [.lit (.bool false)], args := [d] }
  | _ => none }
def QuotSquaresWrongFalsely : Prop := quotSquaresRow.holds Try.pinned (OpenSpec.ofChange quotSquaresWrong)

/-- 'abacuslaw03.QuotAlike': WHATEVER THE INPUT: true; the input reads as it did. -/
def quotAlikeSpec : ChangeSpec := { name := "quotAlike", fn := fun _ => fun
  | [d1, d2, d3, d4] => { results := [.lit (.bool true)], args := [d1, d2, d3, d4] }
  | _ => none }
def quotAlikeRow : OpenClaim := { program := "ytlpgflmjpdhpnaa", sum := "6d41150560a382ee130b56415004b16e370b22b5472a7fdd58e37806f0615507", func := "abacus/abacuslaw03.QuotAlike", spec := "quotAlike", apart := false }
def QuotAlikeSaid : Prop := quotAlikeRow.holds Try.pinned (OpenSpec.ofChange quotAlikeSpec)

/-- ITS FALSE NEIGHBOUR: 'it returns false'. Refute it at one input. -/
def quotAlikeWrong : ChangeSpec := { name := "quotAlike", fn := fun _ => fun
  | [d1, d2, d3, d4] => { results := [.lit (.bool false)], args := [d1, d2, d3, d4] }
  | _ => none }
def QuotAlikeWrongFalsely : Prop := quotAlikeRow.holds Try.pinned (OpenSpec.ofChange quotAlikeWrong)

/- THE SECOND FORM. 'bulk': how many values and letters a reading holds, each counted each time it is reached (what is shared counts as often as it is met; a slice's spare places count too). A statement '..UptoSaid' is the law's where the arguments, and the package variables that the reading takes, are together of bulk at most 1048576: NARROWER than '..Said'. Prove '..Said' where nothing that the law and all that it calls make is longer than what came in: it says more and counts as full. Else prove '..UptoSaid'. A law counts once. -/
mutual
def uptoBulk {H : Type} : DataW H → Nat
  | .lit (.string bytes) => bytes.length + 1
  | .lit _ => 1
  | .nil => 1
  | .ptr d => uptoBulk d + 1
  | .slice elems spare => uptoBulkAll elems + uptoBulkAll spare + 1
  | .agg parts => uptoBulkAll parts + 1
  | .iface _ d => uptoBulk d + 1
  | .map entries => uptoBulkEntries entries + 1
  | .held _ => 1
def uptoBulkAll {H : Type} : List (DataW H) → Nat
  | [] => 0
  | d :: r => uptoBulk d + uptoBulkAll r
def uptoBulkEntries {H : Type} : List (Lit × DataW H) → Nat
  | [] => 0
  | x :: r => uptoBulkEntry x + uptoBulkEntries r
def uptoBulkEntry {H : Type} : Lit × DataW H → Nat
  | (.string bytes, d) => bytes.length + uptoBulk d + 1
  | (_, d) => uptoBulk d + 1
 end
def uptoSmall : (H : Type) → List (DataW H) → Bool := fun _ ds => decide (uptoBulkAll ds ≤ 1048576)
def OpenSpec.upto (s : _root_.Go.ChangeSpec) : _root_.Go.OpenSpec := { _root_.Go.OpenSpec.ofChange s with cond := some uptoSmall }

/-- 'abacuslaw02.WideProducts', WHERE WHAT IT READS IS OF BULK AT MOST 1048576: true; the input reads as it did. -/
def wideProductsUptoRow : OpenClaim := { program := "ytlpgflmjpdhpnaa", sum := "6d41150560a382ee130b56415004b16e370b22b5472a7fdd58e37806f0615507", func := "abacus/abacuslaw02.WideProducts", spec := "wideProducts", apart := false, narrowed := true }
def WideProductsUptoSaid : Prop := wideProductsUptoRow.holds Try.pinned (OpenSpec.upto wideProductsSpec)

/-- 'abacuslaw03.QuotDivides', WHERE WHAT IT READS IS OF BULK AT MOST 1048576: true; the input reads as it did. -/
def quotDividesUptoRow : OpenClaim := { program := "ytlpgflmjpdhpnaa", sum := "6d41150560a382ee130b56415004b16e370b22b5472a7fdd58e37806f0615507", func := "abacus/abacuslaw03.QuotDivides", spec := "quotDivides", apart := false, narrowed := true }
def QuotDividesUptoSaid : Prop := quotDividesUptoRow.holds Try.pinned (OpenSpec.upto quotDividesSpec)

/-- 'abacuslaw03.QuotRoots', WHERE WHAT IT READS IS OF BULK AT MOST 1048576: true; the input reads as it did. -/
def quotRootsUptoRow : OpenClaim := { program := "ytlpgflmjpdhpnaa", sum := "6d41150560a382ee130b56415004b16e370b22b5472a7fdd58e37806f0615507", func := "abacus/abacuslaw03.QuotRoots", spec := "quotRoots", apart := false, narrowed := true }
def QuotRootsUptoSaid : Prop := quotRootsUptoRow.holds Try.pinned (OpenSpec.upto quotRootsSpec)

/-- 'abacuslaw02.WideSums', WHERE WHAT IT READS IS OF BULK AT MOST 1048576: true; the input reads as it did. -/
def wideSumsUptoRow : OpenClaim := { program := "ytlpgflmjpdhpnaa", sum := "6d41150560a382ee130b56415004b16e370b22b5472a7fdd58e37806f0615507", func := "abacus/abacuslaw02.WideSums", spec := "wideSums", apart := false, narrowed := true }
def WideSumsUptoSaid : Prop := wideSumsUptoRow.holds Try.pinned (OpenSpec.upto wideSumsSpec)

/-- 'abacuslaw02.WideRing', WHERE WHAT IT READS IS OF BULK AT MOST 1048576: true; the input reads as it did. -/
def wideRingUptoRow : OpenClaim := { program := "ytlpgflmjpdhpnaa", sum := "6d41150560a382ee130b56415004b16e370b22b5472a7fdd58e37806f0615507", func := "abacus/abacuslaw02.WideRing", spec := "wideRing", apart := false, narrowed := true }
def WideRingUptoSaid : Prop := wideRingUptoRow.holds Try.pinned (OpenSpec.upto wideRingSpec)

/-- 'abacuslaw03.QuotDigits', WHERE WHAT IT READS IS OF BULK AT MOST 1048576: true; the input reads as it did. -/
def quotDigitsUptoRow : OpenClaim := { program := "ytlpgflmjpdhpnaa", sum := "6d41150560a382ee130b56415004b16e370b22b5472a7fdd58e37806f0615507", func := "abacus/abacuslaw03.QuotDigits", spec := "quotDigits", apart := false, narrowed := true }
def QuotDigitsUptoSaid : Prop := quotDigitsUptoRow.holds Try.pinned (OpenSpec.upto quotDigitsSpec)

/-- 'abacuslaw02.WideMakes', WHERE WHAT IT READS IS OF BULK AT MOST 1048576: true; the input reads as it did. -/
def wideMakesUptoRow : OpenClaim := { program := "ytlpgflmjpdhpnaa", sum := "6d41150560a382ee130b56415004b16e370b22b5472a7fdd58e37806f0615507", func := "abacus/abacuslaw02.WideMakes", spec := "wideMakes", apart := false, narrowed := true }
def WideMakesUptoSaid : Prop := wideMakesUptoRow.holds Try.pinned (OpenSpec.upto wideMakesSpec)

/-- 'abacuslaw02.WideTexts', WHERE WHAT IT READS IS OF BULK AT MOST 1048576: true; the input reads as it did. -/
def wideTextsUptoRow : OpenClaim := { program := "ytlpgflmjpdhpnaa", sum := "6d41150560a382ee130b56415004b16e370b22b5472a7fdd58e37806f0615507", func := "abacus/abacuslaw02.WideTexts", spec := "wideTexts", apart := false, narrowed := true }
def WideTextsUptoSaid : Prop := wideTextsUptoRow.holds Try.pinned (OpenSpec.upto wideTextsSpec)

/-- 'abacuslaw03.QuotWhole', WHERE WHAT IT READS IS OF BULK AT MOST 1048576: true; the input reads as it did. -/
def quotWholeUptoRow : OpenClaim := { program := "ytlpgflmjpdhpnaa", sum := "6d41150560a382ee130b56415004b16e370b22b5472a7fdd58e37806f0615507", func := "abacus/abacuslaw03.QuotWhole", spec := "quotWhole", apart := false, narrowed := true }
def QuotWholeUptoSaid : Prop := quotWholeUptoRow.holds Try.pinned (OpenSpec.upto quotWholeSpec)

/-- 'abacuslaw03.QuotSquares', WHERE WHAT IT READS IS OF BULK AT MOST 1048576: true; the input reads as it did. -/
def quotSquaresUptoRow : OpenClaim := { program := "ytlpgflmjpdhpnaa", sum := "6d41150560a382ee130b56415004b16e370b22b5472a7fdd58e37806f0615507", func := "abacus/abacuslaw03.QuotSquares", spec := "quotSquares", apart := false, narrowed := true }
def QuotSquaresUptoSaid : Prop := quotSquaresUptoRow.holds Try.pinned (OpenSpec.upto quotSquaresSpec)

/-- 'abacuslaw03.QuotAlike', WHERE WHAT IT READS IS OF BULK AT MOST 1048576: true; the input reads as it did. -/
def quotAlikeUptoRow : OpenClaim := { program := "ytlpgflmjpdhpnaa", sum := "6d41150560a382ee130b56415004b16e370b22b5472a7fdd58e37806f0615507", func := "abacus/abacuslaw03.QuotAlike", spec := "quotAlike", apart := false, narrowed := true }
def QuotAlikeUptoSaid : Prop := quotAlikeUptoRow.holds Try.pinned (OpenSpec.upto quotAlikeSpec)

end Rows
end Go.Proofs.Ytlpgflmjpdhpnaa
