/-
  No cell of these rows narrows 'for every input' (looked for: loops, veiled, ifaces, maps, wideKeys, modest, calm, conditions, laid).
  DERIVED. THE GIVEN ROWS OF THIS SEAT. 17 by the template 'for every input the law returns true; each argument reads behind the call as it read before'; 0 by the template 'total and deterministic' (their statements: YteelconabmfnkaaTotals.lean).
  GIVEN WITH THE SEED: the statements are not yours to turn. If you find one false, say at which input.
  Laid BY PROGRAM, IN A SANDBOX (cutbox-rows.mjs): the forced cells as the released guide's own fill.sh prints them over the translation baf2a28b21a46eb7… (all of the seat's roots in one cut). By AI agents, Wed Nov 11 2026. No macro, syntax, notation, axiom, sorry.
-/
import Derived.Test.YteelconabmfnkaaChecked
import GoSem.Claim
import GoSem.ClaimJoined
import GoSem.ClaimMapViews
import Derived.JoinedTies
import Derived.KernelRfl
namespace Go.Proofs.Yteelconabmfnkaa
/- THE CELL 'sum', in the pinned program and in every row, IS THE sha256 OF THE DUMP (.gsa) THAT YteelconabmfnkaaProg.lean LOADS. Nothing in Lean hashes anything: it is a label: what it is worth is what the hold of that sum in a sandbox is worth. -/
noncomputable def Try.pinned : Pinned := { name := "yteelconabmfnkaa", sum := "baf2a28b21a46eb711d04ef076c998b9cf0d3ab18706d74a1a75896a4567c595", checked := Try.checked }
namespace Rows
def none {H : Type} : Left H := { results := [], args := [] }

/-- 'abacuslaw26.EncodeBack': WHATEVER THE INPUT: true; the input reads as it did. -/
def encodeBackSpec : ChangeSpec := { name := "encodeBack", fn := fun _ => fun
  | [d1, d2] => { results := [.lit (.bool true)], args := [d1, d2] }
  | _ => none }
def encodeBackRow : OpenClaim := { program := "yteelconabmfnkaa", sum := "baf2a28b21a46eb711d04ef076c998b9cf0d3ab18706d74a1a75896a4567c595", func := "abacus/abacuslaw26.EncodeBack", spec := "encodeBack", unfollowed := true, recurses := true, plainKeys := false, apart := false }
def EncodeBackSaid : Prop := encodeBackRow.holds Try.pinned (OpenSpec.ofChange encodeBackSpec)

/-- ITS FALSE NEIGHBOUR: 'it returns false'. Refute it at one input. -/
def encodeBackWrong : ChangeSpec := { name := "encodeBack", fn := fun _ => fun
  | [d1, d2] => { results := [.lit (.bool false)], args := [d1, d2] }
  | _ => none }
def EncodeBackWrongFalsely : Prop := encodeBackRow.holds Try.pinned (OpenSpec.ofChange encodeBackWrong)

/-- 'abacuslaw26.EncodeWith': WHATEVER THE INPUT: true; the input reads as it did. -/
def encodeWithSpec : ChangeSpec := { name := "encodeWith", fn := fun _ => fun
  | [d1, d2] => { results := [.lit (.bool true)], args := [d1, d2] }
  | _ => none }
def encodeWithRow : OpenClaim := { program := "yteelconabmfnkaa", sum := "baf2a28b21a46eb711d04ef076c998b9cf0d3ab18706d74a1a75896a4567c595", func := "abacus/abacuslaw26.EncodeWith", spec := "encodeWith", unfollowed := true, recurses := true, plainKeys := false, apart := false }
def EncodeWithSaid : Prop := encodeWithRow.holds Try.pinned (OpenSpec.ofChange encodeWithSpec)

/-- ITS FALSE NEIGHBOUR: 'it returns false'. Refute it at one input. -/
def encodeWithWrong : ChangeSpec := { name := "encodeWith", fn := fun _ => fun
  | [d1, d2] => { results := [.lit (.bool false)], args := [d1, d2] }
  | _ => none }
def EncodeWithWrongFalsely : Prop := encodeWithRow.holds Try.pinned (OpenSpec.ofChange encodeWithWrong)

/-- 'abacuslaw26.EncodeInsts': WHATEVER THE INPUT: true; the input reads as it did. -/
def encodeInstsSpec : ChangeSpec := { name := "encodeInsts", fn := fun _ => fun
  | [d] => { results := [.lit (.bool true)], args := [d] }
  | _ => none }
def encodeInstsRow : OpenClaim := { program := "yteelconabmfnkaa", sum := "baf2a28b21a46eb711d04ef076c998b9cf0d3ab18706d74a1a75896a4567c595", func := "abacus/abacuslaw26.EncodeInsts", spec := "encodeInsts", unfollowed := true, recurses := true, plainKeys := false, apart := false }
def EncodeInstsSaid : Prop := encodeInstsRow.holds Try.pinned (OpenSpec.ofChange encodeInstsSpec)

/-- ITS FALSE NEIGHBOUR: 'it returns false'. Refute it at one input. -/
def encodeInstsWrong : ChangeSpec := { name := "encodeInsts", fn := fun _ => fun
  | [d] => { results := [.lit (.bool false)], args := [d] }
  | _ => none }
def EncodeInstsWrongFalsely : Prop := encodeInstsRow.holds Try.pinned (OpenSpec.ofChange encodeInstsWrong)

/-- 'abacuslaw24.TableRows': WHATEVER THE INPUT: true; the input reads as it did. -/
def tableRowsSpec : ChangeSpec := { name := "tableRows", fn := fun _ => fun
  | [] => { results := [.lit (.bool true)], args := [] }
  | _ => none }
def tableRowsRow : OpenClaim := { program := "yteelconabmfnkaa", sum := "baf2a28b21a46eb711d04ef076c998b9cf0d3ab18706d74a1a75896a4567c595", func := "abacus/abacuslaw24.TableRows", spec := "tableRows", unfollowed := true, recurses := true, plainKeys := false, apart := false }
def TableRowsSaid : Prop := tableRowsRow.holds Try.pinned (OpenSpec.ofChange tableRowsSpec)

/-- ITS FALSE NEIGHBOUR: 'it returns false'. Refute it at one input. -/
def tableRowsWrong : ChangeSpec := { name := "tableRows", fn := fun _ => fun
  | [] => { results := [.lit (.bool false)], args := [] }
  | _ => none }
def TableRowsWrongFalsely : Prop := tableRowsRow.holds Try.pinned (OpenSpec.ofChange tableRowsWrong)

/-- 'abacuslaw24.TableFinds': WHATEVER THE INPUT: true; the input reads as it did. -/
def tableFindsSpec : ChangeSpec := { name := "tableFinds", fn := fun _ => fun
  | [d] => { results := [.lit (.bool true)], args := [d] }
  | _ => none }
def tableFindsRow : OpenClaim := { program := "yteelconabmfnkaa", sum := "baf2a28b21a46eb711d04ef076c998b9cf0d3ab18706d74a1a75896a4567c595", func := "abacus/abacuslaw24.TableFinds", spec := "tableFinds", unfollowed := true, recurses := true, plainKeys := false, apart := false }
def TableFindsSaid : Prop := tableFindsRow.holds Try.pinned (OpenSpec.ofChange tableFindsSpec)

/-- ITS FALSE NEIGHBOUR: 'it returns false'. Refute it at one input. -/
def tableFindsWrong : ChangeSpec := { name := "tableFinds", fn := fun _ => fun
  | [d] => { results := [.lit (.bool false)], args := [d] }
  | _ => none }
def TableFindsWrongFalsely : Prop := tableFindsRow.holds Try.pinned (OpenSpec.ofChange tableFindsWrong)

/-- 'abacuslaw24.TableFits': WHATEVER THE INPUT: true; the input reads as it did. -/
def tableFitsSpec : ChangeSpec := { name := "tableFits", fn := fun _ => fun
  | [d1, d2] => { results := [.lit (.bool true)], args := [d1, d2] }
  | _ => none }
def tableFitsRow : OpenClaim := { program := "yteelconabmfnkaa", sum := "baf2a28b21a46eb711d04ef076c998b9cf0d3ab18706d74a1a75896a4567c595", func := "abacus/abacuslaw24.TableFits", spec := "tableFits", unfollowed := true, recurses := true, plainKeys := false, apart := false }
def TableFitsSaid : Prop := tableFitsRow.holds Try.pinned (OpenSpec.ofChange tableFitsSpec)

/-- ITS FALSE NEIGHBOUR: 'it returns false'. Refute it at one input. -/
def tableFitsWrong : ChangeSpec := { name := "tableFits", fn := fun _ => fun
  | [d1, d2] => { results := [.lit (.bool false)], args := [d1, d2] }
  | _ => none }
def TableFitsWrongFalsely : Prop := tableFitsRow.holds Try.pinned (OpenSpec.ofChange tableFitsWrong)

/-- 'abacuslaw24.TableOne': WHATEVER THE INPUT: true; the input reads as it did. -/
def tableOneSpec : ChangeSpec := { name := "tableOne", fn := fun _ => fun
  | [d] => { results := [.lit (.bool true)], args := [d] }
  | _ => none }
def tableOneRow : OpenClaim := { program := "yteelconabmfnkaa", sum := "baf2a28b21a46eb711d04ef076c998b9cf0d3ab18706d74a1a75896a4567c595", func := "abacus/abacuslaw24.TableOne", spec := "tableOne", unfollowed := true, recurses := true, plainKeys := false, apart := false }
def TableOneSaid : Prop := tableOneRow.holds Try.pinned (OpenSpec.ofChange tableOneSpec)

/-- ITS FALSE NEIGHBOUR: 'it returns false'. Refute it at one input. -/
def tableOneWrong : ChangeSpec := { name := "tableOne", fn := fun _ => fun
  | [d] => { results := [.lit (.bool false)], args := [d] }
  | _ => none }
def TableOneWrongFalsely : Prop := tableOneRow.holds Try.pinned (OpenSpec.ofChange tableOneWrong)

/-- 'abacuslaw24.TablePairs': WHATEVER THE INPUT: true; the input reads as it did. -/
def tablePairsSpec : ChangeSpec := { name := "tablePairs", fn := fun _ => fun
  | [] => { results := [.lit (.bool true)], args := [] }
  | _ => none }
def tablePairsRow : OpenClaim := { program := "yteelconabmfnkaa", sum := "baf2a28b21a46eb711d04ef076c998b9cf0d3ab18706d74a1a75896a4567c595", func := "abacus/abacuslaw24.TablePairs", spec := "tablePairs", unfollowed := true, recurses := true, plainKeys := false, apart := false }
def TablePairsSaid : Prop := tablePairsRow.holds Try.pinned (OpenSpec.ofChange tablePairsSpec)

/-- ITS FALSE NEIGHBOUR: 'it returns false'. Refute it at one input. -/
def tablePairsWrong : ChangeSpec := { name := "tablePairs", fn := fun _ => fun
  | [] => { results := [.lit (.bool false)], args := [] }
  | _ => none }
def TablePairsWrongFalsely : Prop := tablePairsRow.holds Try.pinned (OpenSpec.ofChange tablePairsWrong)

/-- 'abacuslaw26.EncodeOps': WHATEVER THE INPUT: true; the input reads as it did. -/
def encodeOpsSpec : ChangeSpec := { name := "encodeOps", fn := fun _ => fun
  | [d1, d2] => { results := [.lit (.bool true)], args := [d1, d2] }
  | _ => none }
def encodeOpsRow : OpenClaim := { program := "yteelconabmfnkaa", sum := "baf2a28b21a46eb711d04ef076c998b9cf0d3ab18706d74a1a75896a4567c595", func := "abacus/abacuslaw26.EncodeOps", spec := "encodeOps", unfollowed := true, recurses := true, plainKeys := false, apart := false }
def EncodeOpsSaid : Prop := encodeOpsRow.holds Try.pinned (OpenSpec.ofChange encodeOpsSpec)

/-- ITS FALSE NEIGHBOUR: 'it returns false'. Refute it at one input. -/
def encodeOpsWrong : ChangeSpec := { name := "encodeOps", fn := fun _ => fun
  | [d1, d2] => { results := [.lit (.bool false)], args := [d1, d2] }
  | _ => none }
def EncodeOpsWrongFalsely : Prop := encodeOpsRow.holds Try.pinned (OpenSpec.ofChange encodeOpsWrong)

/-- 'abacuslaw25.DecodeNoBit': WHATEVER THE INPUT: true; the input reads as it did. -/
def decodeNoBitSpec : ChangeSpec := { name := "decodeNoBit", fn := fun _ => fun
  | [d1, d2] => { results := [.lit (.bool true)], args := [d1, d2] }
  | _ => none }
def decodeNoBitRow : OpenClaim := { program := "yteelconabmfnkaa", sum := "baf2a28b21a46eb711d04ef076c998b9cf0d3ab18706d74a1a75896a4567c595", func := "abacus/abacuslaw25.DecodeNoBit", spec := "decodeNoBit", unfollowed := true, recurses := true, plainKeys := false, apart := false }
def DecodeNoBitSaid : Prop := decodeNoBitRow.holds Try.pinned (OpenSpec.ofChange decodeNoBitSpec)

/-- ITS FALSE NEIGHBOUR: 'it returns false'. Refute it at one input. -/
def decodeNoBitWrong : ChangeSpec := { name := "decodeNoBit", fn := fun _ => fun
  | [d1, d2] => { results := [.lit (.bool false)], args := [d1, d2] }
  | _ => none }
def DecodeNoBitWrongFalsely : Prop := decodeNoBitRow.holds Try.pinned (OpenSpec.ofChange decodeNoBitWrong)

/-- 'abacuslaw25.DecodeBounds': WHATEVER THE INPUT: true; the input reads as it did. -/
def decodeBoundsSpec : ChangeSpec := { name := "decodeBounds", fn := fun _ => fun
  | [d] => { results := [.lit (.bool true)], args := [d] }
  | _ => none }
def decodeBoundsRow : OpenClaim := { program := "yteelconabmfnkaa", sum := "baf2a28b21a46eb711d04ef076c998b9cf0d3ab18706d74a1a75896a4567c595", func := "abacus/abacuslaw25.DecodeBounds", spec := "decodeBounds", unfollowed := true, recurses := true, plainKeys := false, apart := false }
def DecodeBoundsSaid : Prop := decodeBoundsRow.holds Try.pinned (OpenSpec.ofChange decodeBoundsSpec)

/-- ITS FALSE NEIGHBOUR: 'it returns false'. Refute it at one input. -/
def decodeBoundsWrong : ChangeSpec := { name := "decodeBounds", fn := fun _ => fun
  | [d] => { results := [.lit (.bool false)], args := [d] }
  | _ => none }
def DecodeBoundsWrongFalsely : Prop := decodeBoundsRow.holds Try.pinned (OpenSpec.ofChange decodeBoundsWrong)

/-- 'abacuslaw25.DecodeWords': WHATEVER THE INPUT: true; the input reads as it did. -/
def decodeWordsSpec : ChangeSpec := { name := "decodeWords", fn := fun _ => fun
  | [d] => { results := [.lit (.bool true)], args := [d] }
  | _ => none }
def decodeWordsRow : OpenClaim := { program := "yteelconabmfnkaa", sum := "baf2a28b21a46eb711d04ef076c998b9cf0d3ab18706d74a1a75896a4567c595", func := "abacus/abacuslaw25.DecodeWords", spec := "decodeWords", unfollowed := true, recurses := true, plainKeys := false, apart := false }
def DecodeWordsSaid : Prop := decodeWordsRow.holds Try.pinned (OpenSpec.ofChange decodeWordsSpec)

/-- ITS FALSE NEIGHBOUR: 'it returns false'. Refute it at one input. -/
def decodeWordsWrong : ChangeSpec := { name := "decodeWords", fn := fun _ => fun
  | [d] => { results := [.lit (.bool false)], args := [d] }
  | _ => none }
def DecodeWordsWrongFalsely : Prop := decodeWordsRow.holds Try.pinned (OpenSpec.ofChange decodeWordsWrong)

/-- 'abacuslaw24.TableAsks': WHATEVER THE INPUT: true; the input reads as it did. -/
def tableAsksSpec : ChangeSpec := { name := "tableAsks", fn := fun _ => fun
  | [d] => { results := [.lit (.bool true)], args := [d] }
  | _ => none }
def tableAsksRow : OpenClaim := { program := "yteelconabmfnkaa", sum := "baf2a28b21a46eb711d04ef076c998b9cf0d3ab18706d74a1a75896a4567c595", func := "abacus/abacuslaw24.TableAsks", spec := "tableAsks", unfollowed := true, recurses := true, plainKeys := false, apart := false }
def TableAsksSaid : Prop := tableAsksRow.holds Try.pinned (OpenSpec.ofChange tableAsksSpec)

/-- ITS FALSE NEIGHBOUR: 'it returns false'. Refute it at one input. -/
def tableAsksWrong : ChangeSpec := { name := "tableAsks", fn := fun _ => fun
  | [d] => { results := [.lit (.bool false)], args := [d] }
  | _ => none }
def TableAsksWrongFalsely : Prop := tableAsksRow.holds Try.pinned (OpenSpec.ofChange tableAsksWrong)

/-- 'abacuslaw25.DecodeLists': WHATEVER THE INPUT: true; the input reads as it did. -/
def decodeListsSpec : ChangeSpec := { name := "decodeLists", fn := fun _ => fun
  | [d] => { results := [.lit (.bool true)], args := [d] }
  | _ => none }
def decodeListsRow : OpenClaim := { program := "yteelconabmfnkaa", sum := "baf2a28b21a46eb711d04ef076c998b9cf0d3ab18706d74a1a75896a4567c595", func := "abacus/abacuslaw25.DecodeLists", spec := "decodeLists", unfollowed := true, recurses := true, plainKeys := false, apart := false }
def DecodeListsSaid : Prop := decodeListsRow.holds Try.pinned (OpenSpec.ofChange decodeListsSpec)

/-- ITS FALSE NEIGHBOUR: 'it returns false'. Refute it at one input. -/
def decodeListsWrong : ChangeSpec := { name := "decodeLists", fn := fun _ => fun
  | [d] => { results := [.lit (.bool false)], args := [d] }
  | _ => none }
def DecodeListsWrongFalsely : Prop := decodeListsRow.holds Try.pinned (OpenSpec.ofChange decodeListsWrong)

/-- 'abacuslaw25.DecodeBytes': WHATEVER THE INPUT: true; the input reads as it did. -/
def decodeBytesSpec : ChangeSpec := { name := "decodeBytes", fn := fun _ => fun
  | [d1, d2] => { results := [.lit (.bool true)], args := [d1, d2] }
  | _ => none }
def decodeBytesRow : OpenClaim := { program := "yteelconabmfnkaa", sum := "baf2a28b21a46eb711d04ef076c998b9cf0d3ab18706d74a1a75896a4567c595", func := "abacus/abacuslaw25.DecodeBytes", spec := "decodeBytes", unfollowed := true, recurses := true, plainKeys := false, apart := false }
def DecodeBytesSaid : Prop := decodeBytesRow.holds Try.pinned (OpenSpec.ofChange decodeBytesSpec)

/-- ITS FALSE NEIGHBOUR: 'it returns false'. Refute it at one input. -/
def decodeBytesWrong : ChangeSpec := { name := "decodeBytes", fn := fun _ => fun
  | [d1, d2] => { results := [.lit (.bool false)], args := [d1, d2] }
  | _ => none }
def DecodeBytesWrongFalsely : Prop := decodeBytesRow.holds Try.pinned (OpenSpec.ofChange decodeBytesWrong)

/-- 'abacuslaw26.EncodeFields': WHATEVER THE INPUT: true; the input reads as it did. -/
def encodeFieldsSpec : ChangeSpec := { name := "encodeFields", fn := fun _ => fun
  | [d1, d2, d3] => { results := [.lit (.bool true)], args := [d1, d2, d3] }
  | _ => none }
def encodeFieldsRow : OpenClaim := { program := "yteelconabmfnkaa", sum := "baf2a28b21a46eb711d04ef076c998b9cf0d3ab18706d74a1a75896a4567c595", func := "abacus/abacuslaw26.EncodeFields", spec := "encodeFields", unfollowed := true, recurses := true, plainKeys := false, apart := false }
def EncodeFieldsSaid : Prop := encodeFieldsRow.holds Try.pinned (OpenSpec.ofChange encodeFieldsSpec)

/-- ITS FALSE NEIGHBOUR: 'it returns false'. Refute it at one input. -/
def encodeFieldsWrong : ChangeSpec := { name := "encodeFields", fn := fun _ => fun
  | [d1, d2, d3] => { results := [.lit (.bool false)], args := [d1, d2, d3] }
  | _ => none }
def EncodeFieldsWrongFalsely : Prop := encodeFieldsRow.holds Try.pinned (OpenSpec.ofChange encodeFieldsWrong)

/-- 'abacuslaw25.DecodeRows': WHATEVER THE INPUT: true; the input reads as it did. -/
def decodeRowsSpec : ChangeSpec := { name := "decodeRows", fn := fun _ => fun
  | [d1, d2, d3] => { results := [.lit (.bool true)], args := [d1, d2, d3] }
  | _ => none }
def decodeRowsRow : OpenClaim := { program := "yteelconabmfnkaa", sum := "baf2a28b21a46eb711d04ef076c998b9cf0d3ab18706d74a1a75896a4567c595", func := "abacus/abacuslaw25.DecodeRows", spec := "decodeRows", unfollowed := true, recurses := true, plainKeys := false, apart := false }
def DecodeRowsSaid : Prop := decodeRowsRow.holds Try.pinned (OpenSpec.ofChange decodeRowsSpec)

/-- ITS FALSE NEIGHBOUR: 'it returns false'. Refute it at one input. -/
def decodeRowsWrong : ChangeSpec := { name := "decodeRows", fn := fun _ => fun
  | [d1, d2, d3] => { results := [.lit (.bool false)], args := [d1, d2, d3] }
  | _ => none }
def DecodeRowsWrongFalsely : Prop := decodeRowsRow.holds Try.pinned (OpenSpec.ofChange decodeRowsWrong)

/- THE SECOND FORM. 'bulk': how many values and letters a reading holds, each counted each time it is reached (what is shared counts as often as it is met; a slice's spare places count too). A statement '..UptoSaid' is the law's where the arguments, and the package variables that the reading takes, are together of bulk at most 1048576: NARROWER than '..Said'. Prove '..Said' where nothing that the law and all that it calls make is longer than what came in: it says more and counts as full. Else prove '..UptoSaid'. A law counts once. -/
mutual
def uptoBulk {H : Type} : DataW H → Nat
  | .lit (.string bytes) => bytes.length + 1
  | .lit _ => 1
  | .nil => 1
  | .ptr d => uptoBulk d + 1
  | .slice elems spare => uptoBulkAll elems + uptoBulkAll spare + 1
  | .agg parts => uptoBulkAll parts + 1
  | .iface _ d => uptoBulk d + 1
  | .map entries => uptoBulkEntries entries + 1
  | .held _ => 1
def uptoBulkAll {H : Type} : List (DataW H) → Nat
  | [] => 0
  | d :: r => uptoBulk d + uptoBulkAll r
def uptoBulkEntries {H : Type} : List (Lit × DataW H) → Nat
  | [] => 0
  | x :: r => uptoBulkEntry x + uptoBulkEntries r
def uptoBulkEntry {H : Type} : Lit × DataW H → Nat
  | (.string bytes, d) => bytes.length + uptoBulk d + 1
  | (_, d) => uptoBulk d + 1
 end
def uptoSmall : (H : Type) → List (DataW H) → Bool := fun _ ds => decide (uptoBulkAll ds ≤ 1048576)
def OpenSpec.upto (s : _root_.Go.ChangeSpec) : _root_.Go.OpenSpec := { _root_.Go.OpenSpec.ofChange s with cond := some uptoSmall }

/-- 'abacuslaw26.EncodeBack', WHERE WHAT IT READS IS OF BULK AT MOST 1048576: true; the input reads as it did. -/
def encodeBackUptoRow : OpenClaim := { program := "yteelconabmfnkaa", sum := "baf2a28b21a46eb711d04ef076c998b9cf0d3ab18706d74a1a75896a4567c595", func := "abacus/abacuslaw26.EncodeBack", spec := "encodeBack", unfollowed := true, recurses := true, plainKeys := false, apart := false, narrowed := true }
def EncodeBackUptoSaid : Prop := encodeBackUptoRow.holds Try.pinned (OpenSpec.upto encodeBackSpec)

/-- 'abacuslaw26.EncodeWith', WHERE WHAT IT READS IS OF BULK AT MOST 1048576: true; the input reads as it did. -/
def encodeWithUptoRow : OpenClaim := { program := "yteelconabmfnkaa", sum := "baf2a28b21a46eb711d04ef076c998b9cf0d3ab18706d74a1a75896a4567c595", func := "abacus/abacuslaw26.EncodeWith", spec := "encodeWith", unfollowed := true, recurses := true, plainKeys := false, apart := false, narrowed := true }
def EncodeWithUptoSaid : Prop := encodeWithUptoRow.holds Try.pinned (OpenSpec.upto encodeWithSpec)

/-- 'abacuslaw26.EncodeInsts', WHERE WHAT IT READS IS OF BULK AT MOST 1048576: true; the input reads as it did. -/
def encodeInstsUptoRow : OpenClaim := { program := "yteelconabmfnkaa", sum := "baf2a28b21a46eb711d04ef076c998b9cf0d3ab18706d74a1a75896a4567c595", func := "abacus/abacuslaw26.EncodeInsts", spec := "encodeInsts", unfollowed := true, recurses := true, plainKeys := false, apart := false, narrowed := true }
def EncodeInstsUptoSaid : Prop := encodeInstsUptoRow.holds Try.pinned (OpenSpec.upto encodeInstsSpec)

/-- 'abacuslaw24.TableRows', WHERE WHAT IT READS IS OF BULK AT MOST 1048576: true; the input reads as it did. -/
def tableRowsUptoRow : OpenClaim := { program := "yteelconabmfnkaa", sum := "baf2a28b21a46eb711d04ef076c998b9cf0d3ab18706d74a1a75896a4567c595", func := "abacus/abacuslaw24.TableRows", spec := "tableRows", unfollowed := true, recurses := true, plainKeys := false, apart := false, narrowed := true }
def TableRowsUptoSaid : Prop := tableRowsUptoRow.holds Try.pinned (OpenSpec.upto tableRowsSpec)

/-- 'abacuslaw24.TableFinds', WHERE WHAT IT READS IS OF BULK AT MOST 1048576: true; the input reads as it did. -/
def tableFindsUptoRow : OpenClaim := { program := "yteelconabmfnkaa", sum := "baf2a28b21a46eb711d04ef076c998b9cf0d3ab18706d74a1a75896a4567c595", func := "abacus/abacuslaw24.TableFinds", spec := "tableFinds", unfollowed := true, recurses := true, plainKeys := false, apart := false, narrowed := true }
def TableFindsUptoSaid : Prop := tableFindsUptoRow.holds Try.pinned (OpenSpec.upto tableFindsSpec)

/-- 'abacuslaw24.TableFits', WHERE WHAT IT READS IS OF BULK AT MOST 1048576: true; the input reads as it did. -/
def tableFitsUptoRow : OpenClaim := { program := "yteelconabmfnkaa", sum := "baf2a28b21a46eb711d04ef076c998b9cf0d3ab18706d74a1a75896a4567c595", func := "abacus/abacuslaw24.TableFits", spec := "tableFits", unfollowed := true, recurses := true, plainKeys := false, apart := false, narrowed := true }
def TableFitsUptoSaid : Prop := tableFitsUptoRow.holds Try.pinned (OpenSpec.upto tableFitsSpec)

/-- 'abacuslaw24.TableOne', WHERE WHAT IT READS IS OF BULK AT MOST 1048576: true; the input reads as it did. -/
def tableOneUptoRow : OpenClaim := { program := "yteelconabmfnkaa", sum := "baf2a28b21a46eb711d04ef076c998b9cf0d3ab18706d74a1a75896a4567c595", func := "abacus/abacuslaw24.TableOne", spec := "tableOne", unfollowed := true, recurses := true, plainKeys := false, apart := false, narrowed := true }
def TableOneUptoSaid : Prop := tableOneUptoRow.holds Try.pinned (OpenSpec.upto tableOneSpec)

/-- 'abacuslaw24.TablePairs', WHERE WHAT IT READS IS OF BULK AT MOST 1048576: true; the input reads as it did. -/
def tablePairsUptoRow : OpenClaim := { program := "yteelconabmfnkaa", sum := "baf2a28b21a46eb711d04ef076c998b9cf0d3ab18706d74a1a75896a4567c595", func := "abacus/abacuslaw24.TablePairs", spec := "tablePairs", unfollowed := true, recurses := true, plainKeys := false, apart := false, narrowed := true }
def TablePairsUptoSaid : Prop := tablePairsUptoRow.holds Try.pinned (OpenSpec.upto tablePairsSpec)

/-- 'abacuslaw26.EncodeOps', WHERE WHAT IT READS IS OF BULK AT MOST 1048576: true; the input reads as it did. -/
def encodeOpsUptoRow : OpenClaim := { program := "yteelconabmfnkaa", sum := "baf2a28b21a46eb711d04ef076c998b9cf0d3ab18706d74a1a75896a4567c595", func := "abacus/abacuslaw26.EncodeOps", spec := "encodeOps", unfollowed := true, recurses := true, plainKeys := false, apart := false, narrowed := true }
def EncodeOpsUptoSaid : Prop := encodeOpsUptoRow.holds Try.pinned (OpenSpec.upto encodeOpsSpec)

/-- 'abacuslaw25.DecodeNoBit', WHERE WHAT IT READS IS OF BULK AT MOST 1048576: true; the input reads as it did. -/
def decodeNoBitUptoRow : OpenClaim := { program := "yteelconabmfnkaa", sum := "baf2a28b21a46eb711d04ef076c998b9cf0d3ab18706d74a1a75896a4567c595", func := "abacus/abacuslaw25.DecodeNoBit", spec := "decodeNoBit", unfollowed := true, recurses := true, plainKeys := false, apart := false, narrowed := true }
def DecodeNoBitUptoSaid : Prop := decodeNoBitUptoRow.holds Try.pinned (OpenSpec.upto decodeNoBitSpec)

/-- 'abacuslaw25.DecodeBounds', WHERE WHAT IT READS IS OF BULK AT MOST 1048576: true; the input reads as it did. -/
def decodeBoundsUptoRow : OpenClaim := { program := "yteelconabmfnkaa", sum := "baf2a28b21a46eb711d04ef076c998b9cf0d3ab18706d74a1a75896a4567c595", func := "abacus/abacuslaw25.DecodeBounds", spec := "decodeBounds", unfollowed := true, recurses := true, plainKeys := false, apart := false, narrowed := true }
def DecodeBoundsUptoSaid : Prop := decodeBoundsUptoRow.holds Try.pinned (OpenSpec.upto decodeBoundsSpec)

/-- 'abacuslaw25.DecodeWords', WHERE WHAT IT READS IS OF BULK AT MOST 1048576: true; the input reads as it did. -/
def decodeWordsUptoRow : OpenClaim := { program := "yteelconabmfnkaa", sum := "baf2a28b21a46eb711d04ef076c998b9cf0d3ab18706d74a1a75896a4567c595", func := "abacus/abacuslaw25.DecodeWords", spec := "decodeWords", unfollowed := true, recurses := true, plainKeys := false, apart := false, narrowed := true }
def DecodeWordsUptoSaid : Prop := decodeWordsUptoRow.holds Try.pinned (OpenSpec.upto decodeWordsSpec)

/-- 'abacuslaw24.TableAsks', WHERE WHAT IT READS IS OF BULK AT MOST 1048576: true; the input reads as it did. -/
def tableAsksUptoRow : OpenClaim := { program := "yteelconabmfnkaa", sum := "baf2a28b21a46eb711d04ef076c998b9cf0d3ab18706d74a1a75896a4567c595", func := "abacus/abacuslaw24.TableAsks", spec := "tableAsks", unfollowed := true, recurses := true, plainKeys := false, apart := false, narrowed := true }
def TableAsksUptoSaid : Prop := tableAsksUptoRow.holds Try.pinned (OpenSpec.upto tableAsksSpec)

/-- 'abacuslaw25.DecodeLists', WHERE WHAT IT READS IS OF BULK AT MOST 1048576: true; the input reads as it did. -/
def decodeListsUptoRow : OpenClaim := { program := "yteelconabmfnkaa", sum := "baf2a28b21a46eb711d04ef076c998b9cf0d3ab18706d74a1a75896a4567c595", func := "abacus/abacuslaw25.DecodeLists", spec := "decodeLists", unfollowed := true, recurses := true, plainKeys := false, apart := false, narrowed := true }
def DecodeListsUptoSaid : Prop := decodeListsUptoRow.holds Try.pinned (OpenSpec.upto decodeListsSpec)

/-- 'abacuslaw25.DecodeBytes', WHERE WHAT IT READS IS OF BULK AT MOST 1048576: true; the input reads as it did. -/
def decodeBytesUptoRow : OpenClaim := { program := "yteelconabmfnkaa", sum := "baf2a28b21a46eb711d04ef076c998b9cf0d3ab18706d74a1a75896a4567c595", func := "abacus/abacuslaw25.DecodeBytes", spec := "decodeBytes", unfollowed := true, recurses := true, plainKeys := false, apart := false, narrowed := true }
def DecodeBytesUptoSaid : Prop := decodeBytesUptoRow.holds Try.pinned (OpenSpec.upto decodeBytesSpec)

/-- 'abacuslaw26.EncodeFields', WHERE WHAT IT READS IS OF BULK AT MOST 1048576: true; the input reads as it did. -/
def encodeFieldsUptoRow : OpenClaim := { program := "yteelconabmfnkaa", sum := "baf2a28b21a46eb711d04ef076c998b9cf0d3ab18706d74a1a75896a4567c595", func := "abacus/abacuslaw26.EncodeFields", spec := "encodeFields", unfollowed := true, recurses := true, plainKeys := false, apart := false, narrowed := true }
def EncodeFieldsUptoSaid : Prop := encodeFieldsUptoRow.holds Try.pinned (OpenSpec.upto encodeFieldsSpec)

/-- 'abacuslaw25.DecodeRows', WHERE WHAT IT READS IS OF BULK AT MOST 1048576: true; the input reads as it did. -/
def decodeRowsUptoRow : OpenClaim := { program := "yteelconabmfnkaa", sum := "baf2a28b21a46eb711d04ef076c998b9cf0d3ab18706d74a1a75896a4567c595", func := "abacus/abacuslaw25.DecodeRows", spec := "decodeRows", unfollowed := true, recurses := true, plainKeys := false, apart := false, narrowed := true }
def DecodeRowsUptoSaid : Prop := decodeRowsUptoRow.holds Try.pinned (OpenSpec.upto decodeRowsSpec)

end Rows
end Go.Proofs.Yteelconabmfnkaa
