/- abacusref24: letters; the table's lines as data. -/
import Derived.Test.YteelconabmfnkaaVa
namespace Go.Proofs.Yteelconabmfnkaa
open Go Go.RowKit
set_option maxHeartbeats 4000000
set_option maxRecDepth 100000
set_option linter.unusedVariables false
set_option linter.unusedSimpArgs false
/-- a line of the reference's table -/
structure Ln where
  op : Nat
  name : ByteArray
  code : Nat
  rs3 : Int
  rm : Int
  rs2 : Int
  lay : Nat
  noq : Bool
  frm : Bool
  knd : Bool
  nof : Bool
  siz : Bool
abbrev lnV (l : Ln) : Array Value := #[.int .u8 (l.op : Nat), .string l.name, .int .i64 (l.code : Nat), .int .i64 l.rs3, .int .i64 l.rm, .int .i64 l.rs2, .int .u8 (l.lay : Nat), .bool l.noq, .bool l.frm, .bool l.knd, .bool l.nof, .bool l.siz]
def ln1 : Ln := ⟨1, ⟨#[102, 108]⟩, 7, -1, 0, -1, 1, false, false, false, false, true⟩
def ln2 : Ln := ⟨2, ⟨#[102, 115]⟩, 39, -1, 0, -1, 2, false, false, false, false, true⟩
def ln3 : Ln := ⟨3, ⟨#[102, 109, 97, 100, 100]⟩, 67, -1, -1, -1, 3, false, false, false, false, false⟩
def ln4 : Ln := ⟨4, ⟨#[102, 109, 115, 117, 98]⟩, 71, -1, -1, -1, 3, false, false, false, false, false⟩
def ln5 : Ln := ⟨5, ⟨#[102, 110, 109, 115, 117, 98]⟩, 75, -1, -1, -1, 3, false, false, false, false, false⟩
def ln6 : Ln := ⟨6, ⟨#[102, 110, 109, 97, 100, 100]⟩, 79, -1, -1, -1, 3, false, false, false, false, false⟩
def ln7 : Ln := ⟨7, ⟨#[102, 97, 100, 100]⟩, 83, 0, -1, -1, 4, false, false, false, false, false⟩
def ln8 : Ln := ⟨8, ⟨#[102, 115, 117, 98]⟩, 83, 1, -1, -1, 4, false, false, false, false, false⟩
def ln9 : Ln := ⟨9, ⟨#[102, 109, 117, 108]⟩, 83, 2, -1, -1, 4, false, false, false, false, false⟩
def ln10 : Ln := ⟨10, ⟨#[102, 100, 105, 118]⟩, 83, 3, -1, -1, 4, false, false, false, false, false⟩
def ln11 : Ln := ⟨11, ⟨#[102, 115, 113, 114, 116]⟩, 83, 11, -1, 0, 6, false, false, false, false, false⟩
def ln12 : Ln := ⟨12, ⟨#[102, 115, 103, 110, 106]⟩, 83, 4, 0, -1, 5, false, false, false, false, false⟩
def ln13 : Ln := ⟨13, ⟨#[102, 115, 103, 110, 106, 110]⟩, 83, 4, 1, -1, 5, false, false, false, false, false⟩
def ln14 : Ln := ⟨14, ⟨#[102, 115, 103, 110, 106, 120]⟩, 83, 4, 2, -1, 5, false, false, false, false, false⟩
def ln15 : Ln := ⟨15, ⟨#[102, 109, 105, 110]⟩, 83, 5, 0, -1, 5, false, false, false, false, false⟩
def ln16 : Ln := ⟨16, ⟨#[102, 109, 97, 120]⟩, 83, 5, 1, -1, 5, false, false, false, false, false⟩
def ln17 : Ln := ⟨17, ⟨#[102, 99, 118, 116]⟩, 83, 8, -1, 0, 6, false, true, false, false, false⟩
def ln18 : Ln := ⟨18, ⟨#[102, 101, 113]⟩, 83, 20, 2, -1, 5, false, false, false, false, false⟩
def ln19 : Ln := ⟨19, ⟨#[102, 108, 116]⟩, 83, 20, 1, -1, 5, false, false, false, false, false⟩
def ln20 : Ln := ⟨20, ⟨#[102, 108, 101]⟩, 83, 20, 0, -1, 5, false, false, false, false, false⟩
def ln21 : Ln := ⟨21, ⟨#[102, 99, 118, 116]⟩, 83, 24, -1, 0, 6, false, false, true, false, false⟩
def ln22 : Ln := ⟨22, ⟨#[102, 99, 118, 116]⟩, 83, 26, -1, 0, 6, false, false, true, false, false⟩
def ln23 : Ln := ⟨23, ⟨#[102, 109, 118, 46, 120]⟩, 83, 28, 0, 0, 7, true, false, false, false, false⟩
def ln24 : Ln := ⟨24, ⟨#[102, 99, 108, 97, 115, 115]⟩, 83, 28, 1, 0, 7, false, false, false, false, false⟩
def ln25 : Ln := ⟨25, ⟨#[102, 109, 118]⟩, 83, 30, 0, 0, 7, true, false, false, false, false⟩
def ln26 : Ln := ⟨26, ⟨#[99, 115, 114, 114, 119]⟩, 115, -1, 1, -1, 8, false, false, false, true, false⟩
def ln27 : Ln := ⟨27, ⟨#[99, 115, 114, 114, 115]⟩, 115, -1, 2, -1, 8, false, false, false, true, false⟩
def ln28 : Ln := ⟨28, ⟨#[99, 115, 114, 114, 99]⟩, 115, -1, 3, -1, 8, false, false, false, true, false⟩
def ln29 : Ln := ⟨29, ⟨#[99, 115, 114, 114, 119, 105]⟩, 115, -1, 5, -1, 9, false, false, false, true, false⟩
def ln30 : Ln := ⟨30, ⟨#[99, 115, 114, 114, 115, 105]⟩, 115, -1, 6, -1, 9, false, false, false, true, false⟩
def ln31 : Ln := ⟨31, ⟨#[99, 115, 114, 114, 99, 105]⟩, 115, -1, 7, -1, 9, false, false, false, true, false⟩
def LINES : List Ln := [ln1, ln2, ln3, ln4, ln5, ln6, ln7, ln8, ln9, ln10, ln11, ln12, ln13, ln14, ln15, ln16, ln17, ln18, ln19, ln20, ln21, ln22, ln23, ln24, ln25, ln26, ln27, ln28, ln29, ln30, ln31]
def LET (f : Nat) : ByteArray := match f with | 0 => ⟨#[115]⟩ | 1 => ⟨#[100]⟩ | 2 => ⟨#[104]⟩ | _ => ⟨#[113]⟩
def SIZ (f : Nat) : ByteArray := match f with | 0 => ⟨#[119]⟩ | 1 => ⟨#[100]⟩ | 2 => ⟨#[104]⟩ | _ => ⟨#[113]⟩
def KIN (f : Nat) : ByteArray := match f with | 0 => ⟨#[119]⟩ | 1 => ⟨#[119, 117]⟩ | 2 => ⟨#[108]⟩ | _ => ⟨#[108, 117]⟩
theorem LET_size (f : Nat) : (LET f).size = 1 := by unfold LET; split <;> rfl
theorem SIZ_size (f : Nat) : (SIZ f).size = 1 := by unfold SIZ; split <;> rfl
theorem KIN_size (f : Nat) : (KIN f).size ≤ 2 := by unfold KIN; split <;> decide
theorem letter_c (w : World) (f : Nat) (hf : f < 4) : Calls Try.prog 85 #[.int .u8 f] w fun e w' => e = .returned (.string (LET f)) ∧ Below w.heap.size w w' := by
  rcases (by omega : f = 0 ∨ f = 1 ∨ f = 2 ∨ f = 3) with rfl | rfl | rfl | rfl
  all_goals
    go_enter Try.func85, Try.ntmps85
    go_wp2
    go_ret
    exact ⟨rfl, (Below.refl _ w).alloc (Nat.le_refl _) _⟩
theorem size_c (w : World) (f : Nat) (hf : f < 4) : Calls Try.prog 84 #[.int .u8 f] w fun e w' => e = .returned (.string (SIZ f)) ∧ Below w.heap.size w w' := by
  rcases (by omega : f = 0 ∨ f = 1 ∨ f = 2 ∨ f = 3) with rfl | rfl | rfl | rfl
  all_goals
    go_enter Try.func84, Try.ntmps84
    go_wp2
    go_ret
    exact ⟨rfl, (Below.refl _ w).alloc (Nat.le_refl _) _⟩
theorem kind_c (w : World) (f : Nat) (hf : f < 4) : Calls Try.prog 86 #[.int .u8 f] w fun e w' => e = .returned (.string (KIN f)) ∧ Below w.heap.size w w' := by
  rcases (by omega : f = 0 ∨ f = 1 ∨ f = 2 ∨ f = 3) with rfl | rfl | rfl | rfl
  all_goals
    go_enter Try.func86, Try.ntmps86
    go_wp2
    go_ret
    exact ⟨rfl, (Below.refl _ w).alloc (Nat.le_refl _) _⟩
end Go.Proofs.Yteelconabmfnkaa
