/- Plain facts of chapter 04. -/
import Derived.Test.YtlpgflmjpdhpnaaDoorRows
import Derived.Test.YtlpgflmjpdhpnaaDoorJa
namespace Go.Proofs.YtlpgflmjpdhpnaaDoor
open Go.RowKit
set_option maxHeartbeats 4000000
set_option maxRecDepth 100000
set_option linter.unusedVariables false
set_option linter.unusedSimpArgs false
set_option exponentiation.threshold 1000
set_option exponentiation.threshold 400
theorem jamR_lt {A c : Nat} (hA : A < W384) : jamR A c < W384 := by
  unfold jamR
  have h1 : A / 2 ^ c < W384 := Nat.lt_of_le_of_lt (Nat.div_le_self _ _) hA
  split
  · exact h1
  · rw [W384_two] at h1 ⊢
    exact Nat.or_lt_two_pow h1 (Nat.one_lt_two_pow (by decide))
/-- two shifts one behind the other -/
theorem jamR_low {A c : Nat} (h : A % 2 ^ c ≠ 0) : (A / 2 ^ c ||| 1) = 2 * (A / 2 ^ (c + 1)) + 1 := by
  refine Nat.eq_of_testBit_eq fun i => ?_
  rw [Nat.testBit_or, Nat.testBit_div_two_pow]
  cases i with
  | zero => simp
  | succ i =>
    rw [show (2 * (A / 2 ^ (c + 1)) + 1).testBit (i + 1) = (A / 2 ^ (c + 1)).testBit i by rw [Nat.testBit_succ]; congr 1; omega, Nat.testBit_div_two_pow, show Nat.testBit 1 (i + 1) = false by simp [Nat.testBit_succ], Bool.or_false]
    congr 1; omega
theorem jamR_twice (A n k : Nat) : jamR (jamR A n) k = jamR A (n + k) := by
  have hp := Nat.two_pow_pos n
  by_cases h : A % 2 ^ n = 0
  · have e : jamR A n = A / 2 ^ n := if_pos h
    have hm : A % 2 ^ (n + k) = A % 2 ^ n + 2 ^ n * (A / 2 ^ n % 2 ^ k) := by rw [Nat.pow_add, Nat.mod_mul]
    have hd : A / 2 ^ n / 2 ^ k = A / 2 ^ (n + k) := by rw [Nat.div_div_eq_div_mul, ← Nat.pow_add]
    rw [e]
    unfold jamR
    rw [hd, hm, h, Nat.zero_add]
    by_cases h2 : A / 2 ^ n % 2 ^ k = 0
    · rw [if_pos h2, if_pos (by rw [h2, Nat.mul_zero])]
    · rw [if_neg h2, if_neg (fun h3 => by
        rcases Nat.mul_eq_zero.1 h3 with h4 | h4
        · omega
        · exact h2 h4)]
  · have e : jamR A n = A / 2 ^ n ||| 1 := if_neg h
    have hm : A % 2 ^ (n + k) ≠ 0 := by
      rw [Nat.pow_add, Nat.mod_mul]; omega
    have e2 : jamR A (n + k) = A / 2 ^ (n + k) ||| 1 := if_neg hm
    rw [e, e2]
    cases k with
    | zero =>
      have : jamR (A / 2 ^ n ||| 1) 0 = A / 2 ^ n ||| 1 := by
        unfold jamR
        rw [Nat.pow_zero, Nat.mod_one, if_pos rfl, Nat.div_one]
      rw [this, Nat.add_zero]
    | succ k =>
      have hl := jamR_low h
      have hne : (A / 2 ^ n ||| 1) % 2 ^ (k + 1) ≠ 0 := by
        rw [hl, show (2 : Nat) ^ (k + 1) = 2 * 2 ^ k by rw [Nat.pow_succ, Nat.mul_comm], Nat.mod_mul]; omega
      have e3 : jamR (A / 2 ^ n ||| 1) (k + 1) = (A / 2 ^ n ||| 1) / 2 ^ (k + 1) ||| 1 := if_neg hne
      rw [e3]
      congr 1
      rw [hl, show (2 : Nat) ^ (k + 1) = 2 * 2 ^ k by rw [Nat.pow_succ, Nat.mul_comm], ← Nat.div_div_eq_div_mul, show (2 * (A / 2 ^ (n + 1)) + 1) / 2 = A / 2 ^ (n + 1) by omega, Nat.div_div_eq_div_mul, ← Nat.pow_add]
      congr 2; omega
theorem jamR_big {A c : Nat} (hA : A < W384) (hc : 384 ≤ c) : jamR A c = jamR A 384 := by
  rw [W384_two] at hA
  have h2 : A < 2 ^ c := Nat.lt_of_lt_of_le hA (Nat.pow_le_pow_right (by decide) hc)
  unfold jamR
  rw [Nat.mod_eq_of_lt hA, Nat.mod_eq_of_lt h2, Nat.div_eq_of_lt hA, Nat.div_eq_of_lt h2]
theorem jamR_clamp {A : Nat} (hA : A < W384) (n : Nat) : jamR A (clamp (n : Int) 384) = jamR A n := by
  by_cases h : n ≤ 384
  · rw [show clamp (n : Int) 384 = n by unfold clamp; omega]
  · rw [show clamp (n : Int) 384 = 384 by unfold clamp; omega, ← jamR_big hA (show 384 ≤ n by omega)]
end Go.Proofs.YtlpgflmjpdhpnaaDoor
