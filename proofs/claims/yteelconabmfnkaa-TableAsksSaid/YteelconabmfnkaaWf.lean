/- abacuslaw24.lives. -/
import Derived.Test.YteelconabmfnkaaWd
import Derived.Test.YteelconabmfnkaaLb
namespace Go.Proofs.Yteelconabmfnkaa
open Go Go.RowKit
set_option maxHeartbeats 4000000
set_option maxRecDepth 100000
set_option linter.unusedVariables false
set_option linter.unusedSimpArgs false
theorem live24_1 : FIND 3211475 = some ⟨7, 0, 0, 0, 4261412991, 83, 4⟩ := by decide +kernel
theorem live24_2 : FIND 3231955 = none := by decide +kernel
theorem live24_3 : NAMEOF ⟨7, 0, 0, 0, 4261412991, 83, 4⟩ = some (⟨7, 0, 0, 0, 4261412991, 83, 4⟩, ⟨#[102, 97, 100, 100, 46, 115]⟩) := by decide +kernel
theorem live24_4 : NAMED ⟨#[102, 99, 118, 116, 46, 100, 46, 119, 117]⟩ = some (⟨22, 1, 0, 1, 4293918847, 3524264019, 6⟩, ⟨#[102, 99, 118, 116, 46, 100, 46, 119, 117]⟩) := by decide +kernel
theorem lives24 (W : World) : Calls Try.prog 33 #[] W fun e w' => e = .returned (.bool true) ∧ Below W.heap.size W w' := by
  have C1 : Hid (∀ X, Calls Try.prog 34 #[.int .u32 3211475] X fun e w' => e = .returned (.tuple #[.agg #[.int .u8 7, .int .u8 0, .int .u8 0, .int .u8 0, .int .u32 4261412991, .int .u32 83, .int .u8 4], .bool true]) ∧ Below X.heap.size X w') := Lib.hid fun X => by
    have := find_c X 3211475 (by decide); unfold FindP at this; rw [live24_1] at this; exact this
  have C2 : Hid (∀ X, Calls Try.prog 34 #[.int .u32 3231955] X fun e w' => e = .returned (.tuple #[.agg #[.int .u8 0, .int .u8 0, .int .u8 0, .int .u8 0, .int .u32 0, .int .u32 0, .int .u8 0], .bool false]) ∧ Below X.heap.size X w') := Lib.hid fun X => by
    have := find_c X 3231955 (by decide); unfold FindP at this; rw [live24_2] at this; exact this
  have C3 : Hid (∀ X, Calls Try.prog 31 #[.agg #[.int .u8 7, .int .u8 0, .int .u8 0, .int .u8 0, .int .u32 4261412991, .int .u32 83, .int .u8 4]] X fun e w' => e = .returned (.tuple #[.string ⟨#[102, 97, 100, 100, 46, 115]⟩, .int .i64 0]) ∧ Below X.heap.size X w') := Lib.hid fun X => by
    have := name_c X ⟨7, 0, 0, 0, 4261412991, 83, 4⟩ (by decide) (by decide); unfold NameP at this; rw [live24_3] at this; exact this
  have C4 : Hid (∀ X, Calls Try.prog 32 #[.string ⟨#[102, 99, 118, 116, 46, 100, 46, 119, 117]⟩] X fun e w' => e = .returned (.tuple #[.agg #[.int .u8 22, .int .u8 1, .int .u8 0, .int .u8 1, .int .u32 4293918847, .int .u32 3524264019, .int .u8 6], .int .i64 0]) ∧ Below X.heap.size X w') := Lib.hid fun X => by
    have := named_c X ⟨#[102, 99, 118, 116, 46, 100, 46, 119, 117]⟩; unfold NamedP at this; rw [live24_4] at this; exact this
  have C5 := Lib.hid len_c
  go_enter Try.func33, Try.ntmps33
  go_wp2_with (first
    | (go_at_call 34; (with_reducible refine (C1.out _).mono ?_); rintro e w1 ⟨rfl, b1⟩; clear C1; have k1 := Blk.new w1 #[.int .u8 7, .int .u8 0, .int .u8 0, .int .u8 0, .int .u32 4261412991, .int .u32 83, .int .u8 4] 40)
    | (go_at_call 34; (with_reducible refine (C2.out _).mono ?_); rintro e w2 ⟨rfl, b2⟩; clear C2; have k2 := (k1.call b2).alloc (.cells #[.int .u8 0, .int .u8 0, .int .u8 0, .int .u8 0, .int .u32 0, .int .u32 0, .int .u8 0] 40))
    | (refine wpList_load_blk rfl _ _ rfl _ rfl _ _ _ k2 Try.underlying40 rfl (by kernel_rfl) ?_)
    | (go_at_call 31; (with_reducible refine (C3.out _).mono ?_); rintro e w3 ⟨rfl, b3⟩; clear C3)
    | (go_at_call 32; (with_reducible refine (C4.out _).mono ?_); rintro e w4 ⟨rfl, b4⟩; clear C4; have q4 := Blk.new w4 #[.int .u8 22, .int .u8 1, .int .u8 0, .int .u8 1, .int .u32 4293918847, .int .u32 3524264019, .int .u8 6] 40)
    | (go_at_call 30; (with_reducible refine (C5.out _).mono ?_); rintro e w5 ⟨rfl, b5⟩; clear C5; have q5 := q4.call b5; have y0 := q5.cell 0; have y1 := q5.cell 1; have y3 := q5.cell 3; simp only [List.getElem?_toArray, List.getElem?_cons_succ, List.getElem?_cons_zero] at y0 y1 y3))
  go_ret
  have d1 := b1.alloc b1.size (.cells #[.int .u8 7, .int .u8 0, .int .u8 0, .int .u8 0, .int .u32 4261412991, .int .u32 83, .int .u8 4] 40)
  have d2 := (d1.trans (b2.mono d1.size)).alloc (Nat.le_trans d1.size b2.size) (.cells #[.int .u8 0, .int .u8 0, .int .u8 0, .int .u8 0, .int .u32 0, .int .u32 0, .int .u8 0] 40)
  have d3 := d2.trans (b3.mono d2.size)
  have d4 := (d3.trans (b4.mono d3.size)).alloc (Nat.le_trans d3.size b4.size) (.cells #[.int .u8 22, .int .u8 1, .int .u8 0, .int .u8 1, .int .u32 4293918847, .int .u32 3524264019, .int .u8 6] 40)
  exact ⟨rfl, d4.trans (b5.mono d4.size)⟩
theorem below_call' {w0 w w' : World} (h : Below w0.heap.size w0 w) (hb : Below w.heap.size w w') : Below w0.heap.size w0 w' := h.trans (hb.mono h.size)
end Go.Proofs.Yteelconabmfnkaa
