/-
  No cell of these rows narrows 'for every input' (looked for: loops, veiled, ifaces, maps, wideKeys, modest, calm, conditions, laid).
  DERIVED. THE GIVEN ROWS OF THIS SEAT. 6 by the template 'for every input the law returns true; each argument reads behind the call as it read before'; 0 by the template 'total and deterministic' (their statements: YtdgdmhmagdjeoaaTotals.lean).
  GIVEN WITH THE SEED: the statements are not yours to turn. If you find one false, say at which input.
  Laid BY PROGRAM, IN A SANDBOX (cutbox-rows.mjs): the forced cells as the released guide's own fill.sh prints them over the translation 78b2cbe67683bf93… (all of the seat's roots in one cut). By AI agents, Wed Nov 11 2026. No macro, syntax, notation, axiom, sorry.
-/
import Derived.Test.YtdgdmhmagdjeoaaChecked
import GoSem.Claim
import GoSem.ClaimJoined
import GoSem.ClaimMapViews
import Derived.JoinedTies
import Derived.KernelRfl
namespace Go.Proofs.Ytdgdmhmagdjeoaa
/- THE CELL 'sum', in the pinned program and in every row, IS THE sha256 OF THE DUMP (.gsa) THAT YtdgdmhmagdjeoaaProg.lean LOADS. Nothing in Lean hashes anything: it is a label: what it is worth is what the hold of that sum in a sandbox is worth. -/
noncomputable def Try.pinned : Pinned := { name := "ytdgdmhmagdjeoaa", sum := "78b2cbe67683bf93fe039dc46f5c48e11e985ab2af3b0b212e86872f4d7a8a1e", checked := Try.checked }
namespace Rows
def none {H : Type} : Left H := { results := [], args := [] }

/-- 'abacuslaw28.MemNew': WHATEVER THE INPUT: true; the input reads as it did. -/
def memNewSpec : ChangeSpec := { name := "memNew", fn := fun _ => fun
  | [d] => { results := [.lit (.bool true)], args := [d] }
  | _ => none }
def memNewRow : OpenClaim := { program := "ytdgdmhmagdjeoaa", sum := "78b2cbe67683bf93fe039dc46f5c48e11e985ab2af3b0b212e86872f4d7a8a1e", func := "abacus/abacuslaw28.MemNew", spec := "memNew", apart := false }
def MemNewSaid : Prop := memNewRow.holds Try.pinned (OpenSpec.ofChange memNewSpec)

/-- ITS FALSE NEIGHBOUR: 'it returns false'. Refute it at one input. -/
def memNewWrong : ChangeSpec := { name := "memNew", fn := fun _ => fun
  | [d] => { results := [.lit (.bool false)], args := [d] }
  | _ => none }
def MemNewWrongFalsely : Prop := memNewRow.holds Try.pinned (OpenSpec.ofChange memNewWrong)

/-- 'abacuslaw28.MemMost': WHATEVER THE INPUT: true; the input reads as it did. -/
def memMostSpec : ChangeSpec := { name := "memMost", fn := fun _ => fun
  | [] => { results := [.lit (.bool true)], args := [] }
  | _ => none }
def memMostRow : OpenClaim := { program := "ytdgdmhmagdjeoaa", sum := "78b2cbe67683bf93fe039dc46f5c48e11e985ab2af3b0b212e86872f4d7a8a1e", func := "abacus/abacuslaw28.MemMost", spec := "memMost", apart := false }
def MemMostSaid : Prop := memMostRow.holds Try.pinned (OpenSpec.ofChange memMostSpec)

/-- ITS FALSE NEIGHBOUR: 'it returns false'. Refute it at one input. -/
def memMostWrong : ChangeSpec := { name := "memMost", fn := fun _ => fun
  | [] => { results := [.lit (.bool false)], args := [] }
  | _ => none }
def MemMostWrongFalsely : Prop := memMostRow.holds Try.pinned (OpenSpec.ofChange memMostWrong)

/-- 'abacuslaw28.MemPieces': WHATEVER THE INPUT: true; the input reads as it did. -/
def memPiecesSpec : ChangeSpec := { name := "memPieces", fn := fun _ => fun
  | [d1, d2, d3, d4] => { results := [.lit (.bool true)], args := [d1, d2, d3, d4] }
  | _ => none }
def memPiecesRow : OpenClaim := { program := "ytdgdmhmagdjeoaa", sum := "78b2cbe67683bf93fe039dc46f5c48e11e985ab2af3b0b212e86872f4d7a8a1e", func := "abacus/abacuslaw28.MemPieces", spec := "memPieces", apart := false }
def MemPiecesSaid : Prop := memPiecesRow.holds Try.pinned (OpenSpec.ofChange memPiecesSpec)

/-- ITS FALSE NEIGHBOUR: 'it returns false'. Refute it at one input. -/
def memPiecesWrong : ChangeSpec := { name := "memPieces", fn := fun _ => fun
  | [d1, d2, d3, d4] => { results := [.lit (.bool false)], args := [d1, d2, d3, d4] }
  | _ => none }
def MemPiecesWrongFalsely : Prop := memPiecesRow.holds Try.pinned (OpenSpec.ofChange memPiecesWrong)

/-- 'abacuslaw28.MemNone': WHATEVER THE INPUT: true; the input reads as it did. -/
def memNoneSpec : ChangeSpec := { name := "memNone", fn := fun _ => fun
  | [d] => { results := [.lit (.bool true)], args := [d] }
  | _ => none }
def memNoneRow : OpenClaim := { program := "ytdgdmhmagdjeoaa", sum := "78b2cbe67683bf93fe039dc46f5c48e11e985ab2af3b0b212e86872f4d7a8a1e", func := "abacus/abacuslaw28.MemNone", spec := "memNone", apart := false }
def MemNoneSaid : Prop := memNoneRow.holds Try.pinned (OpenSpec.ofChange memNoneSpec)

/-- ITS FALSE NEIGHBOUR: 'it returns false'. Refute it at one input. -/
def memNoneWrong : ChangeSpec := { name := "memNone", fn := fun _ => fun
  | [d] => { results := [.lit (.bool false)], args := [d] }
  | _ => none }
def MemNoneWrongFalsely : Prop := memNoneRow.holds Try.pinned (OpenSpec.ofChange memNoneWrong)

/-- 'abacuslaw28.MemBack': WHATEVER THE INPUT: true; the input reads as it did. -/
def memBackSpec : ChangeSpec := { name := "memBack", fn := fun _ => fun
  | [d1, d2, d3, d4] => { results := [.lit (.bool true)], args := [d1, d2, d3, d4] }
  | _ => none }
def memBackRow : OpenClaim := { program := "ytdgdmhmagdjeoaa", sum := "78b2cbe67683bf93fe039dc46f5c48e11e985ab2af3b0b212e86872f4d7a8a1e", func := "abacus/abacuslaw28.MemBack", spec := "memBack", apart := false }
def MemBackSaid : Prop := memBackRow.holds Try.pinned (OpenSpec.ofChange memBackSpec)

/-- ITS FALSE NEIGHBOUR: 'it returns false'. Refute it at one input. -/
def memBackWrong : ChangeSpec := { name := "memBack", fn := fun _ => fun
  | [d1, d2, d3, d4] => { results := [.lit (.bool false)], args := [d1, d2, d3, d4] }
  | _ => none }
def MemBackWrongFalsely : Prop := memBackRow.holds Try.pinned (OpenSpec.ofChange memBackWrong)

/-- 'abacuslaw28.MemPlays': WHATEVER THE INPUT: true; the input reads as it did. -/
def memPlaysSpec : ChangeSpec := { name := "memPlays", fn := fun _ => fun
  | [d1, d2, d3] => { results := [.lit (.bool true)], args := [d1, d2, d3] }
  | _ => none }
def memPlaysRow : OpenClaim := { program := "ytdgdmhmagdjeoaa", sum := "78b2cbe67683bf93fe039dc46f5c48e11e985ab2af3b0b212e86872f4d7a8a1e", func := "abacus/abacuslaw28.MemPlays", spec := "memPlays", apart := false }
def MemPlaysSaid : Prop := memPlaysRow.holds Try.pinned (OpenSpec.ofChange memPlaysSpec)

/-- ITS FALSE NEIGHBOUR: 'it returns false'. Refute it at one input. -/
def memPlaysWrong : ChangeSpec := { name := "memPlays", fn := fun _ => fun
  | [d1, d2, d3] => { results := [.lit (.bool false)], args := [d1, d2, d3] }
  | _ => none }
def MemPlaysWrongFalsely : Prop := memPlaysRow.holds Try.pinned (OpenSpec.ofChange memPlaysWrong)

/- THE SECOND FORM. 'bulk': how many values and letters a reading holds, each counted each time it is reached (what is shared counts as often as it is met; a slice's spare places count too). A statement '..UptoSaid' is the law's where the arguments, and the package variables that the reading takes, are together of bulk at most 1048576: NARROWER than '..Said'. Prove '..Said' where nothing that the law and all that it calls make is longer than what came in: it says more and counts as full. Else prove '..UptoSaid'. A law counts once. -/
mutual
def uptoBulk {H : Type} : DataW H → Nat
  | .lit (.string bytes) => bytes.length + 1
  | .lit _ => 1
  | .nil => 1
  | .ptr d => uptoBulk d + 1
  | .slice elems spare => uptoBulkAll elems + uptoBulkAll spare + 1
  | .agg parts => uptoBulkAll parts + 1
  | .iface _ d => uptoBulk d + 1
  | .map entries => uptoBulkEntries entries + 1
  | .held _ => 1
def uptoBulkAll {H : Type} : List (DataW H) → Nat
  | [] => 0
  | d :: r => uptoBulk d + uptoBulkAll r
def uptoBulkEntries {H : Type} : List (Lit × DataW H) → Nat
  | [] => 0
  | x :: r => uptoBulkEntry x + uptoBulkEntries r
def uptoBulkEntry {H : Type} : Lit × DataW H → Nat
  | (.string bytes, d) => bytes.length + uptoBulk d + 1
  | (_, d) => uptoBulk d + 1
 end
def uptoSmall : (H : Type) → List (DataW H) → Bool := fun _ ds => decide (uptoBulkAll ds ≤ 1048576)
def OpenSpec.upto (s : _root_.Go.ChangeSpec) : _root_.Go.OpenSpec := { _root_.Go.OpenSpec.ofChange s with cond := some uptoSmall }

/-- 'abacuslaw28.MemNew', WHERE WHAT IT READS IS OF BULK AT MOST 1048576: true; the input reads as it did. -/
def memNewUptoRow : OpenClaim := { program := "ytdgdmhmagdjeoaa", sum := "78b2cbe67683bf93fe039dc46f5c48e11e985ab2af3b0b212e86872f4d7a8a1e", func := "abacus/abacuslaw28.MemNew", spec := "memNew", apart := false, narrowed := true }
def MemNewUptoSaid : Prop := memNewUptoRow.holds Try.pinned (OpenSpec.upto memNewSpec)

/-- 'abacuslaw28.MemMost', WHERE WHAT IT READS IS OF BULK AT MOST 1048576: true; the input reads as it did. -/
def memMostUptoRow : OpenClaim := { program := "ytdgdmhmagdjeoaa", sum := "78b2cbe67683bf93fe039dc46f5c48e11e985ab2af3b0b212e86872f4d7a8a1e", func := "abacus/abacuslaw28.MemMost", spec := "memMost", apart := false, narrowed := true }
def MemMostUptoSaid : Prop := memMostUptoRow.holds Try.pinned (OpenSpec.upto memMostSpec)

/-- 'abacuslaw28.MemPieces', WHERE WHAT IT READS IS OF BULK AT MOST 1048576: true; the input reads as it did. -/
def memPiecesUptoRow : OpenClaim := { program := "ytdgdmhmagdjeoaa", sum := "78b2cbe67683bf93fe039dc46f5c48e11e985ab2af3b0b212e86872f4d7a8a1e", func := "abacus/abacuslaw28.MemPieces", spec := "memPieces", apart := false, narrowed := true }
def MemPiecesUptoSaid : Prop := memPiecesUptoRow.holds Try.pinned (OpenSpec.upto memPiecesSpec)

/-- 'abacuslaw28.MemNone', WHERE WHAT IT READS IS OF BULK AT MOST 1048576: true; the input reads as it did. -/
def memNoneUptoRow : OpenClaim := { program := "ytdgdmhmagdjeoaa", sum := "78b2cbe67683bf93fe039dc46f5c48e11e985ab2af3b0b212e86872f4d7a8a1e", func := "abacus/abacuslaw28.MemNone", spec := "memNone", apart := false, narrowed := true }
def MemNoneUptoSaid : Prop := memNoneUptoRow.holds Try.pinned (OpenSpec.upto memNoneSpec)

/-- 'abacuslaw28.MemBack', WHERE WHAT IT READS IS OF BULK AT MOST 1048576: true; the input reads as it did. -/
def memBackUptoRow : OpenClaim := { program := "ytdgdmhmagdjeoaa", sum := "78b2cbe67683bf93fe039dc46f5c48e11e985ab2af3b0b212e86872f4d7a8a1e", func := "abacus/abacuslaw28.MemBack", spec := "memBack", apart := false, narrowed := true }
def MemBackUptoSaid : Prop := memBackUptoRow.holds Try.pinned (OpenSpec.upto memBackSpec)

/-- 'abacuslaw28.MemPlays', WHERE WHAT IT READS IS OF BULK AT MOST 1048576: true; the input reads as it did. -/
def memPlaysUptoRow : OpenClaim := { program := "ytdgdmhmagdjeoaa", sum := "78b2cbe67683bf93fe039dc46f5c48e11e985ab2af3b0b212e86872f4d7a8a1e", func := "abacus/abacuslaw28.MemPlays", spec := "memPlays", apart := false, narrowed := true }
def MemPlaysUptoSaid : Prop := memPlaysUptoRow.holds Try.pinned (OpenSpec.upto memPlaysSpec)

end Rows
end Go.Proofs.Ytdgdmhmagdjeoaa
