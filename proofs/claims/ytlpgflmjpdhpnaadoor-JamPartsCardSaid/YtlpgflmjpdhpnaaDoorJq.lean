/- Further plain facts of chapters 02 and 04. -/
import Derived.Test.YtlpgflmjpdhpnaaDoorRows
import Derived.Test.YtlpgflmjpdhpnaaDoorJp
import Derived.Test.YtlpgflmjpdhpnaaDoorJt
namespace Go.Proofs.YtlpgflmjpdhpnaaDoor
open Go.RowKit
set_option maxHeartbeats 4000000
set_option maxRecDepth 100000
set_option linter.unusedVariables false
set_option linter.unusedSimpArgs false
set_option exponentiation.threshold 1000
set_option exponentiation.threshold 400
theorem len_of {A m : Nat} (hA : A < W384) (h : LenOf A m) : lenW A = m :=
  Nat.le_antisymm ((lenW_spec hA).1.le h) (h.le (lenW_spec hA).1)
theorem len_div {A l c : Nat} (h : LenOf A l) (hc : c < l) : LenOf (A / 2 ^ c) (l - c) := by
  obtain ⟨h1, h2⟩ := h
  have hp : (2 : Nat) ^ l = 2 ^ c * 2 ^ (l - c) := by rw [← Nat.pow_add]; congr 1; omega
  have hp1 : (2 : Nat) ^ (l - c) = 2 * 2 ^ (l - c - 1) := by rw [show l - c = (l - c - 1) + 1 by omega, Nat.pow_succ, Nat.mul_comm]; rfl
  refine ⟨Nat.div_lt_of_lt_mul (by omega), fun _ => ?_⟩
  have h3 := h2 (by omega)
  have h4 : 2 ^ c * 2 ^ (l - c - 1) ≤ A := by
    rw [hp, hp1, ← Nat.mul_assoc, Nat.mul_comm (2 ^ c) 2, Nat.mul_assoc] at h3; omega
  have h5 : 2 ^ (l - c - 1) ≤ A / 2 ^ c := (Nat.le_div_iff_mul_le (Nat.two_pow_pos c)).2 (by rw [Nat.mul_comm]; exact h4)
  omega
theorem len_mul {A l : Nat} (c : Nat) (h : LenOf A l) (h0 : 0 < l) : LenOf (A * 2 ^ c) (l + c) := by
  obtain ⟨h1, h2⟩ := h
  refine ⟨by rw [Nat.pow_add]; exact Nat.mul_lt_mul_of_pos_right h1 (Nat.two_pow_pos c), fun _ => ?_⟩
  have h3 := h2 (by omega)
  rw [Nat.pow_add, ← Nat.mul_assoc]
  exact Nat.mul_le_mul_right _ h3
theorem len_or1 {x m : Nat} (h : LenOf x m) (h0 : 0 < m) : LenOf (x ||| 1) m := by
  obtain ⟨h1, h2⟩ := h
  refine ⟨Nat.or_lt_two_pow h1 (Nat.one_lt_two_pow (by omega)), fun hm => ?_⟩
  have h3 := h2 hm
  have : x ≤ x ||| 1 := Nat.left_le_or
  omega
theorem len_pos {A : Nat} (hA : A < W384) (h0 : ¬ A = 0) : 0 < lenW A := by
  have h := (lenW_spec hA).1.1
  rcases Nat.eq_zero_or_pos (lenW A) with h2 | h2
  · rw [h2, Nat.pow_zero] at h; omega
  · exact h2
theorem jamR_len {A l c : Nat} (h : LenOf A l) (hc : c < l) : LenOf (jamR A c) (l - c) := by
  unfold jamR
  split
  · exact len_div h hc
  · exact len_or1 (len_div h hc) (by omega)
theorem left_fits {A l c : Nat} (h : LenOf A l) (hc : l + c ≤ 384) : A * 2 ^ c < W384 := by
  have h1 : A * 2 ^ c < 2 ^ (l + c) := by rw [Nat.pow_add]; exact Nat.mul_lt_mul_of_pos_right h.1 (Nat.two_pow_pos c)
  rw [W384_two]
  exact Nat.lt_of_lt_of_le h1 (Nat.pow_le_pow_right (by decide) hc)
theorem left_eq {A l c : Nat} (h : LenOf A l) (hc : l + c ≤ 384) : leftW A c = A * 2 ^ c := Nat.mod_eq_of_lt (left_fits h hc)
/-- what was cut off and what is left -/
theorem cut_half {A c : Nat} (hc : 0 < c) : cmpW (A % 2 ^ c) (2 ^ (c - 1)) = (if A.testBit (c - 1) = false then -1 else if A % 2 ^ (c - 1) = 0 then 0 else 1) := by
  obtain ⟨k, rfl⟩ : ∃ k, c = k + 1 := ⟨c - 1, by omega⟩
  rw [Nat.add_sub_cancel]
  have hs : A % 2 ^ (k + 1) = A % 2 ^ k + 2 ^ k * (A / 2 ^ k % 2) := by rw [Nat.pow_succ, Nat.mod_mul]
  have hl := Nat.mod_lt A (Nat.two_pow_pos k)
  have ht : A.testBit k = decide (A / 2 ^ k % 2 = 1) := Nat.testBit_eq_decide_div_mod_eq
  rw [hs, ht]
  rcases Nat.mod_two_eq_zero_or_one (A / 2 ^ k) with h | h
  · rw [h, Nat.mul_zero, Nat.add_zero, cmp_lt hl, if_pos (by decide)]
  · rw [h, Nat.mul_one, if_neg (by decide)]
    by_cases h0 : A % 2 ^ k = 0
    · rw [if_pos h0, h0, Nat.zero_add, cmp_eq rfl]
    · rw [if_neg h0, cmp_gt (by omega)]
theorem len_mod {A c : Nat} (hc : c ≤ 384) : lenW (A % 2 ^ c) ≤ c := by
  have hl := Nat.mod_lt A (Nat.two_pow_pos c)
  have h1 : A % 2 ^ c < W384 := Nat.lt_of_lt_of_le hl (by rw [W384_two]; exact Nat.pow_le_pow_right (by decide) hc)
  obtain ⟨⟨_, h2⟩, _⟩ := lenW_spec h1
  rcases Nat.lt_or_ge c (lenW (A % 2 ^ c)) with h | h
  · have h3 := h2 (by omega)
    have h4 : (2 : Nat) ^ (c + 1) ≤ 2 ^ lenW (A % 2 ^ c) := Nat.pow_le_pow_right (by decide) h
    rw [Nat.pow_succ] at h4; omega
  · exact h
theorem cut_sub {A c : Nat} (hA : A < W384) : subW A (A / 2 ^ c * 2 ^ c) = A % 2 ^ c ∧ ¬ A < A / 2 ^ c * 2 ^ c := by
  have h := Nat.div_add_mod A (2 ^ c)
  rw [Nat.mul_comm] at h
  have hm : A % 2 ^ c < W384 := Nat.lt_of_le_of_lt (Nat.mod_le _ _) hA
  refine ⟨?_, by omega⟩
  unfold subW
  rw [show W384 - A / 2 ^ c * 2 ^ c + A = A % 2 ^ c + W384 by omega, Nat.add_mod_right, Nat.mod_eq_of_lt hm]
theorem left_one {k : Nat} (hk : k < 384) : leftW 1 k = 2 ^ k ∧ 2 ^ k < W384 := by
  have h : (2 : Nat) ^ k < W384 := by rw [W384_two]; exact Nat.pow_lt_pow_right (by decide) hk
  refine ⟨?_, h⟩
  unfold leftW
  rw [Nat.one_mul, Nat.mod_eq_of_lt h]
theorem left_back {A c : Nat} (hA : A < W384) (h : ¬ W384 ≤ A * 2 ^ c) : leftW A c / 2 ^ c = A := by
  unfold leftW
  rw [Nat.mod_eq_of_lt (by omega), Nat.mul_div_cancel _ (Nat.two_pow_pos c)]
end Go.Proofs.YtlpgflmjpdhpnaaDoor
