/- Bits of numbers of many words: shifts, and, or, single bits. Plain mathematics. -/
import Derived.Test.YteelconabmfnkaaN
import Derived.Test.YteelconabmfnkaaM
namespace Go.Proofs.Yteelconabmfnkaa
set_option linter.unusedVariables false
set_option exponentiation.threshold 1000

theorem limb_bit (A i j : Nat) : (limb A i).testBit j = (decide (j < 64) && A.testBit (64 * i + j)) := by
  unfold limb
  rw [B_eq, Nat.testBit_mod_two_pow, Bk_two, Nat.testBit_div_two_pow, Nat.add_comm]
theorem word_ext {x y : Nat} (hx : x < 18446744073709551616) (hy : y < 18446744073709551616) (h : ∀ j, j < 64 → x.testBit j = y.testBit j) : x = y := by
  apply Nat.eq_of_testBit_eq
  intro j
  by_cases hj : j < 64
  · exact h j hj
  · have hp : 2 ^ 64 ≤ 2 ^ j := Nat.pow_le_pow_right (by decide) (by omega)
    rw [Nat.testBit_lt_two_pow (Nat.lt_of_lt_of_le hx hp), Nat.testBit_lt_two_pow (Nat.lt_of_lt_of_le hy hp)]
theorem limb_or (A B i : Nat) : limb (A ||| B) i = limb A i ||| limb B i := by
  apply Nat.eq_of_testBit_eq
  intro j
  rw [Nat.testBit_or, limb_bit, limb_bit, limb_bit, Nat.testBit_or]
  cases decide (j < 64) <;> simp
theorem limb_and (A B i : Nat) : limb (A &&& B) i = limb A i &&& limb B i := by
  apply Nat.eq_of_testBit_eq
  intro j
  rw [Nat.testBit_and, limb_bit, limb_bit, limb_bit, Nat.testBit_and]
  cases decide (j < 64) <;> simp
theorem limb_pow (p i : Nat) : limb (2 ^ p) i = if i = p / 64 then 2 ^ (p % 64) else 0 := by
  apply Nat.eq_of_testBit_eq
  intro j
  rw [limb_bit, Nat.testBit_two_pow]
  by_cases hi : i = p / 64
  · rw [if_pos hi, Nat.testBit_two_pow]
    by_cases hj : j < 64
    · rw [decide_eq_true hj, Bool.true_and]
      congr 1
      apply propext
      omega
    · rw [decide_eq_false hj, Bool.false_and]
      symm
      rw [decide_eq_false_iff_not]
      omega
  · rw [if_neg hi, Nat.zero_testBit]
    by_cases hj : j < 64
    · rw [decide_eq_true hj, Bool.true_and, decide_eq_false_iff_not]
      omega
    · rw [decide_eq_false hj, Bool.false_and]
theorem or_disjoint (T p : Nat) (h : T.testBit p = false) : T ||| 2 ^ p = T + 2 ^ p := by
  apply Nat.eq_of_testBit_eq
  intro j
  rw [Nat.add_comm, Nat.testBit_or, Nat.testBit_two_pow]
  have h0 : T = T / 2 ^ (p + 1) * 2 ^ (p + 1) + T % 2 ^ p := by
    have h1 := Nat.mod_add_div T (2 ^ (p + 1))
    have h2 := mod_succ T p
    rw [h] at h2
    simp only [Bool.toNat_false, Nat.zero_mul, Nat.add_zero] at h2
    rw [h2, Nat.mul_comm] at h1
    omega
  have hl := Nat.mod_lt T (Nat.two_pow_pos p)
  generalize T / 2 ^ (p + 1) = u at *
  generalize T % 2 ^ p = v at *
  subst h0
  rw [show 2 ^ p + (u * 2 ^ (p + 1) + v) = u * 2 ^ (p + 1) + (v + 2 ^ p) by omega]
  have hv : v + 2 ^ p < 2 ^ (p + 1) := by rw [Nat.pow_succ]; omega
  have hv' : v < 2 ^ (p + 1) := by omega
  rw [Nat.mul_comm, Nat.testBit_two_pow_mul_add _ hv, Nat.testBit_two_pow_mul_add _ hv']
  by_cases hj : j < p + 1
  · rw [if_pos hj, if_pos hj]
    by_cases hp : p = j
    · subst hp
      rw [Nat.add_comm v, Nat.testBit_two_pow_add_eq, Nat.testBit_lt_two_pow hl]
      simp
    · rw [decide_eq_false hp, Bool.or_false, Nat.add_comm v, Nat.testBit_two_pow_add_gt (by omega)]
  · rw [if_neg hj, if_neg hj, decide_eq_false (by omega), Bool.or_false]
theorem or_lt384 {T p : Nat} (hT : T < W384) (hp : p < 384) : T ||| 2 ^ p < W384 :=
  Nat.or_lt_two_pow (n := 384) hT (Nat.pow_lt_pow_right (by decide) hp)
theorem pow_lt_word (m : Nat) (h : m < 64) : 2 ^ m < 18446744073709551616 := by
  have := Nat.pow_lt_pow_right (a := 2) (by decide) h
  rwa [← B_eq] at this
/-- a shift to the left, word by word -/
theorem limb_left (A w s j : Nat) (hs : s < 64) : limb (A * 2 ^ (64 * w + s)) j =
    if j < w then 0 else if j = w then limb A 0 * 2 ^ s % 18446744073709551616 else (limb A (j - w) * 2 ^ s % 18446744073709551616 ||| limb A (j - w - 1) / 2 ^ (64 - s)) := by
  apply Nat.eq_of_testBit_eq
  intro t
  rw [limb_bit, Nat.testBit_mul_two_pow]
  by_cases ht : t < 64
  · rw [decide_eq_true ht, Bool.true_and]
    by_cases h1 : j < w
    · rw [if_pos h1, Nat.zero_testBit]
      rw [decide_eq_false (by omega), Bool.false_and]
    · rw [if_neg h1]
      by_cases h2 : j = w
      · rw [if_pos h2, B_eq, Nat.testBit_mod_two_pow, Nat.testBit_mul_two_pow, limb_bit, decide_eq_true ht, Bool.true_and]
        by_cases h3 : s ≤ t
        · rw [decide_eq_true (by omega : 64 * w + s ≤ 64 * j + t), decide_eq_true h3, decide_eq_true (by omega : t - s < 64), Bool.true_and, Bool.true_and, Bool.true_and]
          congr 1; omega
        · rw [decide_eq_false (by omega : ¬ 64 * w + s ≤ 64 * j + t), decide_eq_false h3]
          rfl
      · rw [if_neg h2, Nat.testBit_or, B_eq, Nat.testBit_mod_two_pow, Nat.testBit_mul_two_pow, Nat.testBit_div_two_pow, limb_bit, limb_bit, decide_eq_true ht, Bool.true_and]
        rw [decide_eq_true (by omega : 64 * w + s ≤ 64 * j + t), Bool.true_and]
        by_cases h3 : s ≤ t
        · rw [decide_eq_true h3, decide_eq_true (by omega : t - s < 64), decide_eq_false (by omega : ¬ t + (64 - s) < 64), Bool.true_and, Bool.true_and, Bool.false_and, Bool.or_false]
          congr 1; omega
        · rw [decide_eq_false h3, decide_eq_true (by omega : t + (64 - s) < 64), Bool.true_and, Bool.false_and, Bool.false_or]
          congr 1; omega
  · rw [decide_eq_false ht, Bool.false_and]
    symm
    have hp : 2 ^ 64 ≤ 2 ^ t := Nat.pow_le_pow_right (by decide) (by omega)
    have key : ∀ x, x < 2 ^ 64 → x.testBit t = false := fun x hx => Nat.testBit_lt_two_pow (Nat.lt_of_lt_of_le hx hp)
    apply key
    rw [B_eq]
    have hm : ∀ y, y % 2 ^ 64 < 2 ^ 64 := fun y => Nat.mod_lt _ (Nat.two_pow_pos 64)
    split
    · exact Nat.two_pow_pos 64
    · split
      · exact hm _
      · exact Nat.or_lt_two_pow (hm _) (Nat.lt_of_le_of_lt (Nat.div_le_self _ _) (by rw [← B_eq]; exact limb_lt _ _))
theorem limb_right (A w s j : Nat) (hs : s < 64) : limb (A / 2 ^ (64 * w + s)) j = (limb A (j + w) / 2 ^ s ||| limb A (j + w + 1) * 2 ^ (64 - s) % 18446744073709551616) := by
  apply Nat.eq_of_testBit_eq
  intro t
  rw [limb_bit, Nat.testBit_div_two_pow, Nat.testBit_or, Nat.testBit_div_two_pow, B_eq, Nat.testBit_mod_two_pow, Nat.testBit_mul_two_pow, limb_bit, limb_bit]
  by_cases ht : t < 64
  · rw [decide_eq_true ht, Bool.true_and, Bool.true_and]
    by_cases h3 : t + s < 64
    · rw [decide_eq_true h3, decide_eq_false (by omega : ¬ 64 - s ≤ t), Bool.true_and, Bool.false_and, Bool.or_false]
      congr 1; omega
    · rw [decide_eq_false h3, decide_eq_true (by omega : 64 - s ≤ t), decide_eq_true (by omega : t - (64 - s) < 64), Bool.false_and, Bool.true_and, Bool.true_and, Bool.false_or]
      congr 1; omega
  · rw [decide_eq_false ht, Bool.false_and, Bool.false_and, decide_eq_false (by omega : ¬ t + s < 64), Bool.false_and, Bool.false_or]
theorem limb_mod384 (A j : Nat) (hj : j < 6) : limb (A % W384) j = limb A j := limb_mod A 6 j hj
/-- a bit of a number, by its word -/
theorem bit_limb (A i : Nat) : A.testBit i = (limb A (i / 64)).testBit (i % 64) := by
  rw [limb_bit, decide_eq_true (Nat.mod_lt i (by decide)), Bool.true_and, Nat.div_add_mod]
/-- how far a shift goes, and what it loses -/
def leftW (A c : Nat) : Nat := A * 2 ^ c % W384
theorem leftW_lt (A c : Nat) : leftW A c < W384 := Nat.mod_lt _ W384_pos
theorem rightW_lt {A : Nat} (hA : A < W384) (c : Nat) : A / 2 ^ c < W384 := Nat.lt_of_le_of_lt (Nat.div_le_self _ _) hA
theorem left_over {A : Nat} (c : Nat) (h : LenOf A (lenW A)) : (384 < lenW A + c ∧ A ≠ 0) ↔ W384 ≤ A * 2 ^ c := by
  obtain ⟨h1, h2⟩ := h
  have hW : W384 = 2 ^ 384 := Bk_two 6
  rw [hW]
  have hp := Nat.two_pow_pos c
  constructor
  · rintro ⟨hl, h0⟩
    have hm : lenW A ≠ 0 := by
      intro e
      rw [e] at h1
      simp at h1
      exact h0 h1
    have h3 := h2 hm
    have h4 : 2 ^ 385 ≤ 2 ^ (lenW A + c) := Nat.pow_le_pow_right (by decide) hl
    rw [Nat.pow_add] at h4
    have h5 : 2 ^ lenW A * 2 ^ c ≤ 2 * A * 2 ^ c := Nat.mul_le_mul_right _ h3
    have h6 : (2 : Nat) ^ 385 = 2 * 2 ^ 384 := Nat.pow_succ'
    rw [Nat.mul_assoc] at h5
    omega
  · intro h
    have h0 : A ≠ 0 := by
      rintro rfl
      rw [Nat.zero_mul] at h
      have := Nat.two_pow_pos 384
      omega
    refine ⟨?_, h0⟩
    rcases Nat.lt_or_ge 384 (lenW A + c) with hl | hl
    · exact hl
    · exfalso
      have h4 : A * 2 ^ c < 2 ^ lenW A * 2 ^ c := Nat.mul_lt_mul_of_pos_right h1 hp
      rw [← Nat.pow_add] at h4
      have h5 : 2 ^ (lenW A + c) ≤ 2 ^ 384 := Nat.pow_le_pow_right (by decide) hl
      omega
/-! one bit more -/
theorem or_bit (T m : Nat) (hm : m < 384) (h : T.testBit m = false) : bits .or .u64 ((limb T (m / 64) : Nat) : Int) (IntKind.u64.wrap (2 ^ (m % 64))) = ((limb (T + 2 ^ m) (m / 64) : Nat) : Int) := by
  have hp := pow_lt_word (m % 64) (Nat.mod_lt _ (by decide))
  have e : ((2 : Int) ^ (m % 64)) = ((2 ^ (m % 64) : Nat) : Int) := by simp
  rw [e, wrap_lt _ hp, or_nat _ _ (limb_lt _ _) hp, ← or_disjoint T m h, limb_or, limb_pow, if_pos rfl]
theorem or_bit' (T m : Nat) (hm : m < 384) (h : T.testBit m = false) : bits .or .u64 ((limb T (m / 64) : Nat) : Int) ((2 : Int) ^ (m % 64)) = ((limb (T + 2 ^ m) (m / 64) : Nat) : Int) := by
  have hp := pow_lt_word (m % 64) (Nat.mod_lt _ (by decide))
  have e : ((2 : Int) ^ (m % 64)) = ((2 ^ (m % 64) : Nat) : Int) := by simp
  rw [e, or_nat _ _ (limb_lt _ _) hp, ← or_disjoint T m h, limb_or, limb_pow, if_pos rfl]
theorem limb_bit_other (T m i : Nat) (h : T.testBit m = false) (hi : i ≠ m / 64) : limb (T + 2 ^ m) i = limb T i := by
  rw [← or_disjoint T m h, limb_or, limb_pow, if_neg hi, Nat.or_zero]
theorem low_bit_false {T m : Nat} (h : T < 2 ^ m) : T.testBit m = false := Nat.testBit_lt_two_pow h
theorem mod_bit_false {A k : Nat} (h : A.testBit k = false) : A % 2 ^ (k + 1) = A % 2 ^ k := by
  rw [mod_succ, h]; simp
theorem mod_bit_true {A k : Nat} (h : A.testBit k = true) : A % 2 ^ (k + 1) = A % 2 ^ k + 2 ^ k := by
  rw [mod_succ, h]; simp
theorem W384_two : W384 = 2 ^ 384 := Bk_two 6
theorem left_in {A k c : Nat} (h : A.testBit k = true) (hk : k + c < 384) : leftW (A % 2 ^ (k + 1)) c = leftW (A % 2 ^ k) c + 2 ^ (k + c) ∧ (leftW (A % 2 ^ k) c).testBit (k + c) = false ∧
    ¬ W384 ≤ A % 2 ^ (k + 1) * 2 ^ c ∧ ¬ W384 ≤ A % 2 ^ k * 2 ^ c := by
  have h1 : A % 2 ^ k * 2 ^ c < 2 ^ (k + c) := by
    rw [Nat.pow_add]
    exact Nat.mul_lt_mul_of_pos_right (Nat.mod_lt _ (Nat.two_pow_pos k)) (Nat.two_pow_pos c)
  have h2 : 2 ^ (k + c + 1) ≤ W384 := by rw [W384_two]; exact Nat.pow_le_pow_right (by decide) hk
  rw [Nat.pow_succ] at h2
  have h3 : A % 2 ^ (k + 1) * 2 ^ c = A % 2 ^ k * 2 ^ c + 2 ^ (k + c) := by rw [mod_bit_true h, Nat.add_mul, ← Nat.pow_add]
  unfold leftW
  rw [h3]
  generalize A % 2 ^ k * 2 ^ c = u at *
  generalize W384 = p at *
  refine ⟨?_, ?_, by omega, by omega⟩
  · rw [Nat.mod_eq_of_lt (by omega), Nat.mod_eq_of_lt (by omega)]
  · rw [Nat.mod_eq_of_lt (by omega)]; exact low_bit_false h1
theorem left_out {A k c : Nat} (h : A.testBit k = true) (hk : 384 ≤ k + c) : leftW (A % 2 ^ (k + 1)) c = leftW (A % 2 ^ k) c ∧ W384 ≤ A % 2 ^ (k + 1) * 2 ^ c := by
  have h3 : A % 2 ^ (k + 1) * 2 ^ c = A % 2 ^ k * 2 ^ c + W384 * 2 ^ (k + c - 384) := by
    have e : 384 + (k + c - 384) = k + c := by omega
    rw [mod_bit_true h, Nat.add_mul, ← Nat.pow_add, W384_two, ← Nat.pow_add, e]
  unfold leftW
  rw [h3, Nat.add_mul_mod_self_left]
  refine ⟨rfl, ?_⟩
  have h4 : W384 * 1 ≤ W384 * 2 ^ (k + c - 384) := Nat.mul_le_mul_left _ (Nat.two_pow_pos _)
  omega
theorem left_zero (A c : Nat) : leftW (A % 2 ^ 0) c = 0 ∧ ¬ W384 ≤ A % 2 ^ 0 * 2 ^ c := by
  have := W384_pos
  rw [Nat.pow_zero, Nat.mod_one]
  unfold leftW
  rw [Nat.zero_mul, Nat.zero_mod]
  exact ⟨rfl, by omega⟩
theorem mod_all {A : Nat} (hA : A < W384) : A % 2 ^ 384 = A := Nat.mod_eq_of_lt (by rw [← W384_two]; exact hA)
theorem right_in {A k c : Nat} (h : A.testBit k = true) (hk : c ≤ k) : A % 2 ^ (k + 1) / 2 ^ c = A % 2 ^ k / 2 ^ c + 2 ^ (k - c) ∧ (A % 2 ^ k / 2 ^ c).testBit (k - c) = false ∧ A % 2 ^ (k + 1) % 2 ^ c = A % 2 ^ k % 2 ^ c := by
  have h1 : (2 : Nat) ^ k = 2 ^ (k - c) * 2 ^ c := by rw [← Nat.pow_add]; congr 1; omega
  rw [mod_bit_true h]
  refine ⟨?_, low_bit_false ?_, ?_⟩
  · conv => lhs; arg 1; arg 2; rw [h1]
    exact Nat.add_mul_div_right _ _ (Nat.two_pow_pos c)
  · rw [Nat.div_lt_iff_lt_mul (Nat.two_pow_pos c), ← h1]; exact Nat.mod_lt _ (Nat.two_pow_pos k)
  · conv => lhs; arg 1; arg 2; rw [h1]
    exact Nat.add_mul_mod_self_right _ _ _
theorem right_out {A k c : Nat} (h : A.testBit k = true) (hk : k < c) : A % 2 ^ (k + 1) / 2 ^ c = A % 2 ^ k / 2 ^ c ∧ A % 2 ^ (k + 1) % 2 ^ c ≠ 0 := by
  have hp : 2 ^ (k + 1) ≤ 2 ^ c := Nat.pow_le_pow_right (by decide) hk
  have h1 := Nat.mod_lt A (Nat.two_pow_pos (k + 1))
  have h2 := Nat.mod_lt A (Nat.two_pow_pos k)
  have h3 := mod_bit_true h
  have h4 := Nat.two_pow_pos k
  rw [Nat.pow_succ] at hp h1
  refine ⟨?_, ?_⟩
  · rw [Nat.div_eq_of_lt (by rw [Nat.pow_succ]; omega), Nat.div_eq_of_lt (by omega)]
  · rw [Nat.mod_eq_of_lt (by rw [Nat.pow_succ]; omega)]
    omega
theorem right_zero (A c : Nat) : A % 2 ^ 0 / 2 ^ c = 0 ∧ false = decide (A % 2 ^ 0 % 2 ^ c ≠ 0) := by
  rw [Nat.pow_zero, Nat.mod_one, Nat.zero_div, Nat.zero_mod]
  exact ⟨rfl, rfl⟩
end Go.Proofs.Yteelconabmfnkaa
