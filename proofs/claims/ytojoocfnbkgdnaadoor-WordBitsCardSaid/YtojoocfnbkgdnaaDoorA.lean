/- The answers that the statements of layer 1 ask for first ('alive'). -/
import Derived.Test.YtojoocfnbkgdnaaDoorW
namespace Go.Proofs.YtojoocfnbkgdnaaDoor
open Go.RowKit
set_option maxHeartbeats 4000000
set_option maxRecDepth 100000
set_option linter.unusedVariables false
set_option linter.unusedSimpArgs false

theorem alive1 (w : World) : Calls Tryd.prog 17 #[.int .u64 18446744073709551615, .int .u64 0, .bool true] w fun e w' => e = .returned (.tuple #[.int .u64 0, .bool true]) ∧ w' = w :=
  add_c 18446744073709551615 0 true w (by decide) (by decide)
theorem alive2 (w : World) : Calls Tryd.prog 18 #[.int .u64 9223372036854775808, .int .u64 4] w fun e w' => e = .returned (.tuple #[.int .u64 2, .int .u64 0]) ∧ w' = w :=
  mul_c 9223372036854775808 4 w (by decide) (by decide)
theorem alive3 (w : World) : Calls Tryd.prog 6 #[.int .u64 8] w fun e w' => e = .returned (.int .i64 4) ∧ w' = w :=
  len_c 8 w (by decide)
theorem alive4 (w : World) : Calls Tryd.prog 19 #[.int .i64 65] w fun e w' => e = .returned (.int .u64 18446744073709551615) ∧ w' = w :=
  mask_c 65 w
theorem alive_c (w : World) : Calls Tryd.prog 12 #[] w fun e w' => e = .returned (.bool true) ∧ w' = w := by
  go_enter Tryd.func12, Tryd.ntmps12
  go_wp2_with (first
    | (go_at_call 17; (with_reducible refine (alive1 _).mono ?_); rintro e w' ⟨rfl, rfl⟩)
    | (go_at_call 18; (with_reducible refine (alive2 _).mono ?_); rintro e w' ⟨rfl, rfl⟩)
    | (go_at_call 6; (with_reducible refine (alive3 _).mono ?_); rintro e w' ⟨rfl, rfl⟩)
    | (go_at_call 19; (with_reducible refine (alive4 _).mono ?_); rintro e w' ⟨rfl, rfl⟩))
  go_ret
  exact ⟨rfl, rfl⟩
end Go.Proofs.YtojoocfnbkgdnaaDoor
