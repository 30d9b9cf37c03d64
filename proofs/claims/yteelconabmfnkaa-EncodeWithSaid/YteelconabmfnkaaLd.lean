/- abacuslaw26.lives. -/
import Derived.Test.YteelconabmfnkaaPga
import Derived.Test.YteelconabmfnkaaLb
namespace Go.Proofs.Yteelconabmfnkaa
open Go Go.RowKit
set_option maxHeartbeats 4000000
set_option maxRecDepth 100000
set_option linter.unusedVariables false
set_option linter.unusedSimpArgs false
theorem live1 : encV ⟨7, 0, 0, 0, 1, 2, 3, 0, 0, 0, 0⟩ = 3211475 ∧ encE ⟨7, 0, 0, 0, 1, 2, 3, 0, 0, 0, 0⟩ = 0 := by decide +kernel
theorem live2 : encV ⟨2, 0, 0, 0, 0, 2, 1, 0, 0, -4, 0⟩ = 4262538791 ∧ encE ⟨2, 0, 0, 0, 0, 2, 1, 0, 0, -4, 0⟩ = 0 := by decide +kernel
theorem live3 : encV ⟨7, 0, 0, 0, 0, 0, 0, 0, 5, 0, 0⟩ = 0 ∧ encE ⟨7, 0, 0, 0, 0, 0, 0, 0, 5, 0, 0⟩ = 260 := by decide +kernel
theorem live4 : MAY ⟨23, 3, 0, 0, 0, 0, 0, 0, 0, 0, 0⟩ = false := by decide +kernel
theorem lives26 (W : World) : Calls Try.prog 23 #[] W fun e w' => e = .returned (.bool true) ∧ Below W.heap.size W w' := by
  have C1 : Hid (∀ X, Calls Try.prog 20 #[.agg #[.int .u8 7, .int .u8 0, .int .u8 0, .int .u8 0, .int .u8 1, .int .u8 2, .int .u8 3, .int .u8 0, .int .u8 0, .int .i16 (0), .int .u8 0]] X fun e w' => e = .returned (.tuple #[.int .u32 3211475, .int .i64 0]) ∧ Below X.heap.size X w') := Lib.hid fun X => by
    have := encode_c X ⟨7, 0, 0, 0, 1, 2, 3, 0, 0, 0, 0⟩ (by constructor <;> decide); rw [live1.1, live1.2] at this; exact this
  have C2 : Hid (∀ X, Calls Try.prog 20 #[.agg #[.int .u8 2, .int .u8 0, .int .u8 0, .int .u8 0, .int .u8 0, .int .u8 2, .int .u8 1, .int .u8 0, .int .u8 0, .int .i16 (-4), .int .u8 0]] X fun e w' => e = .returned (.tuple #[.int .u32 4262538791, .int .i64 0]) ∧ Below X.heap.size X w') := Lib.hid fun X => by
    have := encode_c X ⟨2, 0, 0, 0, 0, 2, 1, 0, 0, -4, 0⟩ (by constructor <;> decide); rw [live2.1, live2.2] at this; exact this
  have C3 : Hid (∀ X, Calls Try.prog 20 #[.agg #[.int .u8 7, .int .u8 0, .int .u8 0, .int .u8 0, .int .u8 0, .int .u8 0, .int .u8 0, .int .u8 0, .int .u8 5, .int .i16 (0), .int .u8 0]] X fun e w' => e = .returned (.tuple #[.int .u32 0, .int .i64 260]) ∧ Below X.heap.size X w') := Lib.hid fun X => by
    have := encode_c X ⟨7, 0, 0, 0, 0, 0, 0, 0, 5, 0, 0⟩ (by constructor <;> decide); rw [live3.1, live3.2] at this; exact this
  have C4 : Hid (∀ X, Calls Try.prog 21 #[.agg #[.int .u8 23, .int .u8 3, .int .u8 0, .int .u8 0, .int .u8 0, .int .u8 0, .int .u8 0, .int .u8 0, .int .u8 0, .int .i16 (0), .int .u8 0]] X fun e w' => e = .returned (.bool false) ∧ Below X.heap.size X w') := Lib.hid fun X => by
    have := may_c X ⟨23, 3, 0, 0, 0, 0, 0, 0, 0, 0, 0⟩ (by constructor <;> decide); rw [live4] at this; exact this
  go_enter Try.func23, Try.ntmps23
  go_wp2_with (first
    | (go_at_call 20; (with_reducible refine (C1.out _).mono ?_); rintro e w1 ⟨rfl, b1⟩; clear C1)
    | (go_at_call 20; (with_reducible refine (C2.out _).mono ?_); rintro e w2 ⟨rfl, b2⟩; clear C2)
    | (go_at_call 20; (with_reducible refine (C3.out _).mono ?_); rintro e w3 ⟨rfl, b3⟩; clear C3)
    | (go_at_call 21; (with_reducible refine (C4.out _).mono ?_); rintro e w4 ⟨rfl, b4⟩; clear C4))
  go_ret
  have d2 := b1.trans (b2.mono b1.size)
  have d3 := d2.trans (b3.mono d2.size)
  exact ⟨rfl, d3.trans (b4.mono d3.size)⟩
theorem dec_fin {w : Nat} (hw : w < 4294967296) {y : I11} (h : DEC w = some y) : Fin11 y := by
  obtain ⟨r, hr, _, _, M, o1, _⟩ := dec_fine hw h
  have F := row_fine r hr
  have := F.op2
  obtain ⟨h1, h2, h3, h4, h5, h6, h7, h8, h9, h10, _⟩ := M
  constructor <;> omega
theorem enc_true (x : I11) (hx : Fin11 x) (h : MAY x = true) (v : Nat) (hv : WORD x = v) (X : World) : Calls Try.prog 20 #[.agg (instV x)] X fun e w' => e = .returned (.tuple #[.int .u32 (v : Nat), .int .i64 0]) ∧ Below X.heap.size X w' := by
  have := encode_c X x hx
  unfold encV encE at this
  rw [if_pos h, if_pos h, hv] at this
  exact this
theorem enc_false (x : I11) (hx : Fin11 x) (h : MAY x = false) (X : World) : Calls Try.prog 20 #[.agg (instV x)] X fun e w' => e = .returned (.tuple #[.int .u32 0, .int .i64 260]) ∧ Below X.heap.size X w' := by
  have := encode_c X x hx
  unfold encV encE at this
  rw [if_neg (by rw [h]; decide), if_neg (by rw [h]; decide)] at this
  exact this
theorem may_is (x : I11) (hx : Fin11 x) (b : Bool) (h : MAY x = b) (X : World) : Calls Try.prog 21 #[.agg (instV x)] X fun e w' => e = .returned (.bool b) ∧ Below X.heap.size X w' := by
  have := may_c X x hx
  rwa [h] at this
theorem dec_is (w : Nat) (hw : w < 4294967296) (y : I11) (h : DEC w = some y) (X : World) : Calls Try.prog 22 #[.int .u32 w] X fun e w' => e = .returned (.tuple #[.agg (instV y), .int .i64 0]) ∧ Below X.heap.size X w' := by
  have := decode_c X w hw
  unfold DecP at this
  rw [h] at this
  exact this
theorem dec_not (w : Nat) (hw : w < 4294967296) (h : DEC w = none) (X : World) : Calls Try.prog 22 #[.int .u32 w] X fun e w' => e = .returned (.tuple #[.agg (instV zeroI), .int .i64 250]) ∧ Below X.heap.size X w' := by
  have := decode_c X w hw
  unfold DecP at this
  rw [h] at this
  exact this
theorem below_call {w0 w w' : World} (h : Below w0.heap.size w0 w) (hb : Below w.heap.size w w') : Below w0.heap.size w0 w' := h.trans (hb.mono h.size)
abbrev Bx (x : I11) : Prop := x.op < 256 ∧ x.form < 256 ∧ x.frm < 256 ∧ x.kind < 256 ∧ x.rd < 256 ∧ x.rs1 < 256 ∧ x.rs2 < 256 ∧ x.rs3 < 256 ∧ x.rm < 256 ∧ (-32768 ≤ x.imm ∧ x.imm ≤ 32767) ∧ x.csr < 256
theorem fin_of {x : I11} (b : Bx x) : Fin11 x := by
  obtain ⟨a1, a2, a3, a4, a5, a6, a7, a8, a9, a10, a11⟩ := b
  exact ⟨a1, a5, a6, a7, a8, a9, a11, a10⟩
end Go.Proofs.Yteelconabmfnkaa
