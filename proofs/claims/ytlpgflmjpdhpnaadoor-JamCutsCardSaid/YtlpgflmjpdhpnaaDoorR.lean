/- Contracts of the functions of package abacusref01. -/
import Derived.Test.YtlpgflmjpdhpnaaDoorW
import Derived.LoopTactic
namespace Go.Proofs.YtlpgflmjpdhpnaaDoor
open Go.RowKit
set_option maxHeartbeats 4000000
set_option maxRecDepth 100000
set_option linter.unusedVariables false
set_option linter.unusedSimpArgs false

theorem bit_c (a i : Nat) (w : World) (hi : i < 64) : Calls Tryd.prog 54 #[.int .u64 a, .int .i64 i] w fun e w' => e = .returned (.bool (a.testBit i)) ∧ w' = w := by
  have e1 := Lib.hid (bit_eq a i)
  go_enter Tryd.func54, Tryd.ntmps54
  go_wp2
  go_ret
  exact ⟨ret1 (vbool e1.out), rfl⟩


theorem rlen_c (a : Nat) (w : World) (ha : a < 18446744073709551616) :
    Calls Tryd.prog 51 #[.int .u64 a] w fun e w' => e = .returned (.int .i64 (Lib.bitLen a : Nat)) ∧ w' = w := by
  have hA := Lib.hid ha
  clear ha
  go_enter Tryd.func51, Tryd.ntmps51
  go_wp2
  go_loop [3, 4] (fun n i => ∃ (k l : Nat), k ≤ 64 ∧ l ≤ k ∧ i = .int .i64 k ∧ n = .int .i64 l ∧ Hid (LenOf (a % 2 ^ k) l)) (fun _ i => 64 - (intOf i).toNat)
  case atStart => exact ⟨0, 0, by omega, by omega, rfl, rfl, Lib.hid (by rw [Nat.pow_zero, Nat.mod_one]; exact LenOf.zero)⟩
  case round =>
    obtain ⟨k, l, hk, hl, rfl, rfl, HI⟩ := hrel
    by_cases hlt : k < 64
    · have HS := Lib.hid HI.out.next
      clear HI
      obtain ⟨x, hx⟩ : ∃ x, a.testBit k = x := ⟨_, rfl⟩
      have HX := Lib.hid hx
      rw [hx] at HS
      clear hx
      cases x <;>
      · go_wp2_with ((go_at_call 54; (with_reducible refine (bit_c a k _ hlt).mono ?_); rw [HX.out]; rintro e w' ⟨rfl, rfl⟩))
        go_round
        case rel => exact ⟨k + 1, _, by omega, by first | (show k + 1 ≤ k + 1; omega) | (show l ≤ k + 1; omega), by go_num, by first | rfl | go_num, HS⟩
        case measure => (simp [intOf]; try omega)
    · obtain rfl : k = 64 := by omega
      go_wp2
      go_ret
      have h1 := HI.out
      rw [show a % 2 ^ 64 = a from Nat.mod_eq_of_lt hA.out] at h1
      have h2 := (bl_spec 64 a (Nat.le_refl _) hA.out).1.unique h1
      exact ⟨ret1 (vint (by rw [h2])), rfl⟩
end Go.Proofs.YtlpgflmjpdhpnaaDoor
