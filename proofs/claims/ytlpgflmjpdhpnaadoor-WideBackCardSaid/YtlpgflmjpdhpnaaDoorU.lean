/- Digits in a row of words. -/
import Derived.Test.YtlpgflmjpdhpnaaDoorE
import Derived.Test.YtlpgflmjpdhpnaaDoorT
namespace Go.Proofs.YtlpgflmjpdhpnaaDoor
open Go.RowKit
set_option maxHeartbeats 4000000
set_option maxRecDepth 100000
set_option linter.unusedVariables false
set_option linter.unusedSimpArgs false
theorem wv_digit {T d k : Nat} (hT : T % 2 ^ (4 * (k + 1)) = 0) (hd : d < 16) : (wv T).setIfInBounds (k / 16) (.int .u64 ((limb (T + d * 2 ^ (4 * k)) (k / 16) : Nat))) = wv (T + d * 2 ^ (4 * k)) := by
  unfold wv
  rw [cellsN_set]
  refine cellsN_congr fun i _ => ?_
  unfold upd
  by_cases hi : i = k / 16
  · rw [if_pos hi, hi]
  · rw [if_neg hi, ← or_digit hT hd, limb_or, limb_digit hd, if_neg hi, Nat.or_zero]
theorem zeros_one : (#[.int .u64 0, .int .u64 0, .int .u64 0, .int .u64 0, .int .u64 0, .int .u64 0] : Array Value).all (·.oneCell') = true := by rw [← wv_zero]; exact wv_one 0
def hexN (c : Nat) : Nat := if 48 ≤ c ∧ c ≤ 57 then c - 48 else if 97 ≤ c ∧ c ≤ 102 then c - 87 else 16
theorem hexv_hexN (c : UInt8) : hexv c = hexN c.toNat := rfl
end Go.Proofs.YtlpgflmjpdhpnaaDoor
