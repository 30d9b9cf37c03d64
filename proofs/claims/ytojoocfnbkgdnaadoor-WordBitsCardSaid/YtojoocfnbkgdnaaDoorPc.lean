/- The count of the bits that are set: plain facts. -/
import Derived.Test.YtojoocfnbkgdnaaDoorM
namespace Go.Proofs.YtojoocfnbkgdnaaDoor
set_option linter.unusedVariables false
/-- the sum of the first n digits of w bits -/
def sumD (w : Nat) : Nat → Nat → Nat
  | 0, _ => 0
  | n + 1, x => x % 2 ^ w + sumD w n (x / 2 ^ w)
/-- the mask that takes every second digit of w bits, n times -/
def mskD (w : Nat) : Nat → Nat
  | 0 => 0
  | n + 1 => 2 ^ w - 1 + 2 ^ (2 * w) * mskD w n
def onesW (x : Nat) : Nat := sumD 1 64 x
theorem sumD_last (w : Nat) : ∀ (n x : Nat), sumD w (n + 1) x = sumD w n x + x / 2 ^ (w * n) % 2 ^ w
  | 0, x => by simp [sumD]
  | n + 1, x => by
    rw [sumD, sumD_last w n, sumD, Nat.div_div_eq_div_mul, ← Nat.pow_add, show w + w * n = w * (n + 1) by rw [Nat.mul_add, Nat.mul_one, Nat.add_comm], Nat.add_assoc]
theorem sumD_le (w : Nat) {b : Nat} : ∀ (n x : Nat), (∀ i, i < n → x / 2 ^ (w * i) % 2 ^ w ≤ b) → sumD w n x ≤ b * n
  | 0, x, _ => by simp [sumD]
  | n + 1, x, h => by
    rw [sumD_last, Nat.mul_add, Nat.mul_one]
    exact Nat.add_le_add (sumD_le w n x fun i hi => h i (by omega)) (h n (by omega))
theorem and_parts {a u v m k : Nat} (hu : u < 2 ^ a) (hm : m < 2 ^ a) : (u + 2 ^ a * v) &&& (m + 2 ^ a * k) = (u &&& m) + 2 ^ a * (v &&& k) := by
  refine Nat.eq_of_testBit_eq fun i => ?_
  rw [Nat.add_comm u, Nat.add_comm m, Nat.add_comm (u &&& m), Nat.testBit_and, Nat.testBit_two_pow_mul_add _ hu, Nat.testBit_two_pow_mul_add _ hm, Nat.testBit_two_pow_mul_add _ (Nat.and_lt_two_pow _ hm)]
  split
  · rw [Nat.testBit_and]
  · rw [Nat.testBit_and]
theorem msk_low (u w : Nat) : u &&& (2 ^ w - 1) = u % 2 ^ w := Nat.and_two_pow_sub_one_eq_mod u w
theorem msk_lt (w : Nat) : 2 ^ w - 1 < 2 ^ (2 * w) := by
  have h1 := Nat.two_pow_pos w
  have h2 : (2 : Nat) ^ w ≤ 2 ^ (2 * w) := Nat.pow_le_pow_right (by decide) (by omega)
  omega
/-- the mask takes the first digit and goes on behind the second -/
theorem and_msk (x w n : Nat) : x &&& mskD w (n + 1) = x % 2 ^ w + 2 ^ (2 * w) * (x / 2 ^ (2 * w) &&& mskD w n) := by
  have h := Nat.mod_add_div x (2 ^ (2 * w))
  have e : (2 : Nat) ^ (2 * w) = 2 ^ w * 2 ^ w := by rw [show 2 * w = w + w by omega, Nat.pow_add]
  conv => lhs; rw [← h]
  rw [mskD, and_parts (Nat.mod_lt _ (Nat.two_pow_pos _)) (msk_lt w), msk_low, e, Nat.mod_mul_right_mod]
theorem sum_step {u w t : Nat} (hu : u < 2 ^ (2 * w)) (n : Nat) : sumD (2 * w) (n + 1) (u + 2 ^ (2 * w) * t) = u + sumD (2 * w) n t := by
  rw [sumD, Nat.add_mul_mod_self_left, Nat.mod_eq_of_lt hu, Nat.add_mul_div_left _ _ (Nat.two_pow_pos _), Nat.div_eq_of_lt hu, Nat.zero_add]
/-- two digits beside each other are added: their sums are of twice the width -/
theorem sum_pair {w : Nat} (hw : 0 < w) : ∀ (n x : Nat), sumD (2 * w) n ((x / 2 ^ w &&& mskD w n) + (x &&& mskD w n)) = sumD w (2 * n) x
  | 0, x => by simp [sumD]
  | n + 1, x => by
    have e : (2 : Nat) ^ (2 * w) = 2 ^ w * 2 ^ w := by rw [show 2 * w = w + w by omega, Nat.pow_add]
    have h1 := Nat.mod_lt (x / 2 ^ w) (Nat.two_pow_pos w)
    have h2 := Nat.mod_lt x (Nat.two_pow_pos w)
    have h3 : 2 * 2 ^ w ≤ 2 ^ (2 * w) := by rw [e]; exact Nat.mul_le_mul_right _ (by have := Nat.pow_le_pow_right (n := 2) (by decide) hw; simpa using this)
    rw [and_msk, and_msk, show x / 2 ^ w % 2 ^ w + 2 ^ (2 * w) * (x / 2 ^ w / 2 ^ (2 * w) &&& mskD w n) + (x % 2 ^ w + 2 ^ (2 * w) * (x / 2 ^ (2 * w) &&& mskD w n))
        = (x / 2 ^ w % 2 ^ w + x % 2 ^ w) + 2 ^ (2 * w) * ((x / 2 ^ (2 * w) / 2 ^ w &&& mskD w n) + (x / 2 ^ (2 * w) &&& mskD w n)) by
          rw [Nat.div_div_eq_div_mul x, Nat.mul_comm (2 ^ w) (2 ^ (2 * w)), ← Nat.div_div_eq_div_mul, Nat.mul_add]; omega,
      sum_step (by omega), sum_pair hw n, show 2 * (n + 1) = 2 * n + 1 + 1 by omega, sumD, sumD, Nat.div_div_eq_div_mul, ← e]
    omega
/-- the same where the sum of two digits is still a digit: the mask is put on behind the sum -/
theorem sum_half {w : Nat} : ∀ (n x : Nat), (∀ i, x / 2 ^ (w * i) % 2 ^ w + x / 2 ^ (w * (i + 1)) % 2 ^ w < 2 ^ w) → sumD (2 * w) n (x / 2 ^ w + x &&& mskD w n) = sumD w (2 * n) x
  | 0, x, _ => by simp [sumD]
  | n + 1, x, h => by
    have e : (2 : Nat) ^ (2 * w) = 2 ^ w * 2 ^ w := by rw [show 2 * w = w + w by omega, Nat.pow_add]
    have hp := Nat.two_pow_pos w
    have h0 : x % 2 ^ w + x / 2 ^ w % 2 ^ w < 2 ^ w := by have := h 0; simpa using this
    have h1 : x / 2 ^ w % 2 ^ w + x / 2 ^ (2 * w) % 2 ^ w < 2 ^ w := by have := h 1; simpa [Nat.mul_comm] using this
    -- the digits of x
    obtain ⟨d0, hd0⟩ : ∃ d, x % 2 ^ w = d := ⟨_, rfl⟩
    obtain ⟨d1, hd1⟩ : ∃ d, x / 2 ^ w % 2 ^ w = d := ⟨_, rfl⟩
    obtain ⟨d2, hd2⟩ : ∃ d, x / 2 ^ (2 * w) % 2 ^ w = d := ⟨_, rfl⟩
    obtain ⟨r, hr⟩ : ∃ r, x / 2 ^ (2 * w) = r := ⟨_, rfl⟩
    have e1 : x / 2 ^ w = d1 + 2 ^ w * r := by rw [← hd1, ← hr, e, ← Nat.div_div_eq_div_mul]; exact (Nat.mod_add_div _ _).symm
    have e0 : x = d0 + 2 ^ w * (d1 + 2 ^ w * r) := by rw [← e1, ← hd0]; exact (Nat.mod_add_div _ _).symm
    have e2 : r = d2 + 2 ^ w * (r / 2 ^ w) := by rw [← hd2, hr]; exact (Nat.mod_add_div _ _).symm
    rw [hd0, hd1] at h0
    rw [hd1, hd2] at h1
    have hs : x / 2 ^ w + x = (d0 + d1) + 2 ^ w * (d1 + d2) + 2 ^ (2 * w) * (r / 2 ^ w + r) := by
      have h5 : 2 ^ w * r = 2 ^ w * d2 + 2 ^ (2 * w) * (r / 2 ^ w) := by
        conv => lhs; rw [e2]
        rw [Nat.mul_add, ← Nat.mul_assoc, ← e]
      have h6 : 2 ^ w * (d1 + 2 ^ w * r) = 2 ^ w * d1 + 2 ^ (2 * w) * r := by rw [Nat.mul_add, ← Nat.mul_assoc, ← e]
      have h7 : x = d0 + (2 ^ w * d1 + 2 ^ (2 * w) * r) := by rw [← h6]; exact e0
      rw [e1, Nat.mul_add (2 ^ w) d1 d2, Nat.mul_add (2 ^ (2 * w))]
      omega
    have hlt : (d0 + d1) + 2 ^ w * (d1 + d2) < 2 ^ (2 * w) := by
      rw [e]
      have : 2 ^ w * (d1 + d2) + 2 ^ w ≤ 2 ^ w * 2 ^ w := by
        rw [← Nat.mul_succ]; exact Nat.mul_le_mul_left _ h1
      omega
    rw [and_msk, hs, Nat.add_mul_div_left _ _ (Nat.two_pow_pos _), Nat.div_eq_of_lt hlt, Nat.zero_add, e, Nat.mul_assoc, Nat.add_assoc]
    rw [← Nat.mul_add, Nat.add_mul_mod_self_left, Nat.mod_eq_of_lt h0, ← e, sum_step (by omega)]
    have hn : ∀ i, r / 2 ^ (w * i) % 2 ^ w + r / 2 ^ (w * (i + 1)) % 2 ^ w < 2 ^ w := fun i => by
      have := h (i + 2)
      rw [show w * (i + 2) = 2 * w + w * i by rw [Nat.mul_add, Nat.mul_comm w 2]; omega, show w * (i + 2 + 1) = 2 * w + w * (i + 1) by rw [show i + 2 + 1 = 2 + (i + 1) by omega, Nat.mul_add w 2, Nat.mul_comm w 2], Nat.pow_add, Nat.pow_add, ← Nat.div_div_eq_div_mul, ← Nat.div_div_eq_div_mul, hr] at this
      exact this
    rw [sum_half n r hn, show 2 * (n + 1) = 2 * n + 1 + 1 by omega, sumD, sumD, Nat.div_div_eq_div_mul, ← e, hr, hd0, hd1]
    omega
/-! the count of a word, step by step -/
def pcA (x : Nat) : Nat := (x / 2 &&& 6148914691236517205) + (x &&& 6148914691236517205)
def pcB (x : Nat) : Nat := (x / 4 &&& 3689348814741910323) + (x &&& 3689348814741910323)
def pcC (x : Nat) : Nat := x / 16 + x &&& 1085102592571150095
theorem msk1 : mskD 1 32 = 6148914691236517205 := by decide
theorem msk2 : mskD 2 16 = 3689348814741910323 := by decide
theorem msk4 : mskD 4 8 = 1085102592571150095 := by decide
theorem pcA_sum (x : Nat) : sumD 2 32 (pcA x) = onesW x := by
  have := sum_pair (w := 1) (by decide) 32 x
  rw [msk1] at this; exact this
theorem pcB_sum (x : Nat) : sumD 4 16 (pcB x) = sumD 2 32 x := by
  have := sum_pair (w := 2) (by decide) 16 x
  rw [msk2] at this; exact this
theorem shift_digit {u a t : Nat} (hu : u < 2 ^ a) (i : Nat) : (u + 2 ^ a * t) / 2 ^ (a * (i + 1)) = t / 2 ^ (a * i) := by
  rw [show a * (i + 1) = a + a * i by rw [Nat.mul_add, Nat.mul_one, Nat.add_comm], Nat.pow_add, ← Nat.div_div_eq_div_mul, Nat.add_mul_div_left _ _ (Nat.two_pow_pos _), Nat.div_eq_of_lt hu, Nat.zero_add]
theorem msk_digit {w : Nat} : ∀ (n x i : Nat), (x &&& mskD w n) / 2 ^ (2 * w * i) % 2 ^ (2 * w) < 2 ^ w
  | 0, x, i => by
    have := Nat.two_pow_pos w
    rw [mskD, Nat.and_zero, Nat.zero_div, Nat.zero_mod]; exact this
  | n + 1, x, i => by
    have h1 := Nat.mod_lt x (Nat.two_pow_pos w)
    have h2 : (2 : Nat) ^ w ≤ 2 ^ (2 * w) := Nat.pow_le_pow_right (by decide) (by omega)
    rw [and_msk]
    cases i with
    | zero => rw [Nat.mul_zero, Nat.pow_zero, Nat.div_one, Nat.add_mul_mod_self_left, Nat.mod_eq_of_lt (by omega)]; exact h1
    | succ i => rw [shift_digit (by omega)]; exact msk_digit n _ i
theorem pair_digit {w : Nat} (hw : 0 < w) : ∀ (n x i : Nat), ((x / 2 ^ w &&& mskD w n) + (x &&& mskD w n)) / 2 ^ (2 * w * i) % 2 ^ (2 * w) < 2 * 2 ^ w
  | 0, x, i => by
    have := Nat.two_pow_pos w
    rw [mskD, Nat.and_zero, Nat.and_zero, Nat.add_zero, Nat.zero_div, Nat.zero_mod]; omega
  | n + 1, x, i => by
    have e : (2 : Nat) ^ (2 * w) = 2 ^ w * 2 ^ w := by rw [show 2 * w = w + w by omega, Nat.pow_add]
    have h1 := Nat.mod_lt (x / 2 ^ w) (Nat.two_pow_pos w)
    have h2 := Nat.mod_lt x (Nat.two_pow_pos w)
    have h3 : 2 * 2 ^ w ≤ 2 ^ (2 * w) := by rw [e]; exact Nat.mul_le_mul_right _ (by have := Nat.pow_le_pow_right (n := 2) (by decide) hw; simpa using this)
    rw [and_msk, and_msk, show x / 2 ^ w % 2 ^ w + 2 ^ (2 * w) * (x / 2 ^ w / 2 ^ (2 * w) &&& mskD w n) + (x % 2 ^ w + 2 ^ (2 * w) * (x / 2 ^ (2 * w) &&& mskD w n))
        = (x / 2 ^ w % 2 ^ w + x % 2 ^ w) + 2 ^ (2 * w) * ((x / 2 ^ (2 * w) / 2 ^ w &&& mskD w n) + (x / 2 ^ (2 * w) &&& mskD w n)) by
          rw [Nat.div_div_eq_div_mul x, Nat.mul_comm (2 ^ w) (2 ^ (2 * w)), ← Nat.div_div_eq_div_mul, Nat.mul_add]; omega]
    cases i with
    | zero => rw [Nat.mul_zero, Nat.pow_zero, Nat.div_one, Nat.add_mul_mod_self_left, Nat.mod_eq_of_lt (by omega)]; omega
    | succ i => rw [shift_digit (by omega)]; exact pair_digit hw n _ i
theorem pcB_digit (x i : Nat) : pcB x / 2 ^ (4 * i) % 2 ^ 4 < 8 := by
  have := pair_digit (w := 2) (by decide) 16 x i
  rw [msk2] at this; exact this
theorem pcC_sum (x : Nat) (h : ∀ i, x / 2 ^ (4 * i) % 2 ^ 4 < 8) : sumD 8 8 (pcC x) = sumD 4 16 x := by
  have := sum_half (w := 4) 8 x fun i => by have h1 := h i; have h2 := h (i + 1); omega
  rw [msk4] at this; exact this
theorem pcC_digit (x i : Nat) : pcC x / 2 ^ (8 * i) % 2 ^ 8 < 16 := by
  have := msk_digit (w := 4) 8 (x / 16 + x) i
  rw [msk4] at this; exact this
theorem pcC_lt (x : Nat) : pcC x < 18446744073709551616 := Nat.lt_of_le_of_lt Nat.and_le_right (by decide)
/-- the bytes' sum -/
theorem bytes_sum (z : Nat) (hz : z < 18446744073709551616) (h : ∀ i, z / 2 ^ (8 * i) % 2 ^ 8 < 16) :
    z + z / 256 < 18446744073709551616 ∧ (z + z / 256) + (z + z / 256) / 65536 < 18446744073709551616 ∧
    ((z + z / 256) + (z + z / 256) / 65536) + ((z + z / 256) + (z + z / 256) / 65536) / 4294967296 < 18446744073709551616 ∧
    (((z + z / 256) + (z + z / 256) / 65536) + ((z + z / 256) + (z + z / 256) / 65536) / 4294967296) % 128 = sumD 8 8 z := by
  have g : ∀ (m k : Nat), 2 ^ (8 * (k + 1)) = m * 256 → m = 2 ^ (8 * k) → z / (m * 256) = z / m / 256 := fun m k _ _ => (Nat.div_div_eq_div_mul _ _ _).symm
  have hb : ∀ i y, z / 2 ^ (8 * i) = y → y % 256 < 16 ∧ z / 2 ^ (8 * (i + 1)) = y / 256 := fun i y hy => by
    subst hy
    exact ⟨h i, by rw [show 8 * (i + 1) = 8 * i + 8 by omega, Nat.pow_add, ← Nat.div_div_eq_div_mul]⟩
  obtain ⟨h0, k1⟩ := hb 0 z (by rw [Nat.mul_zero, Nat.pow_zero, Nat.div_one])
  obtain ⟨z1, e1⟩ : ∃ y, z / 256 = y := ⟨_, rfl⟩
  obtain ⟨h1, k2⟩ := hb 1 z1 (k1.trans e1)
  obtain ⟨z2, e2⟩ : ∃ y, z1 / 256 = y := ⟨_, rfl⟩
  obtain ⟨h2, k3⟩ := hb 2 z2 (k2.trans e2)
  obtain ⟨z3, e3⟩ : ∃ y, z2 / 256 = y := ⟨_, rfl⟩
  obtain ⟨h3, k4⟩ := hb 3 z3 (k3.trans e3)
  obtain ⟨z4, e4⟩ : ∃ y, z3 / 256 = y := ⟨_, rfl⟩
  obtain ⟨h4, k5⟩ := hb 4 z4 (k4.trans e4)
  obtain ⟨z5, e5⟩ : ∃ y, z4 / 256 = y := ⟨_, rfl⟩
  obtain ⟨h5, k6⟩ := hb 5 z5 (k5.trans e5)
  obtain ⟨z6, e6⟩ : ∃ y, z5 / 256 = y := ⟨_, rfl⟩
  obtain ⟨h6, k7⟩ := hb 6 z6 (k6.trans e6)
  obtain ⟨z7, e7⟩ : ∃ y, z6 / 256 = y := ⟨_, rfl⟩
  obtain ⟨h7, k8⟩ := hb 7 z7 (k7.trans e7)
  have es : sumD 8 8 z = z % 256 + (z1 % 256 + (z2 % 256 + (z3 % 256 + (z4 % 256 + (z5 % 256 + (z6 % 256 + (z7 % 256 + 0))))))) := by
    simp only [sumD, Nat.reducePow, e1, e2, e3, e4, e5, e6, e7]
  rw [es, e1]
  clear es k1 k2 k3 k4 k5 k6 k7 k8 hb g h
  have lz7 : z7 < 256 := by omega
  rw [Nat.mod_eq_of_lt lz7] at h7 ⊢
  have d0 := Nat.mod_add_div z 256; have d1 := Nat.mod_add_div z1 256; have d2 := Nat.mod_add_div z2 256; have d3 := Nat.mod_add_div z3 256
  have d4 := Nat.mod_add_div z4 256; have d5 := Nat.mod_add_div z5 256; have d6 := Nat.mod_add_div z6 256
  rw [e1] at d0; rw [e2] at d1; rw [e3] at d2; rw [e4] at d3; rw [e5] at d4; rw [e6] at d5; rw [e7] at d6
  obtain ⟨b0, f0⟩ : ∃ b, z % 256 = b := ⟨_, rfl⟩
  obtain ⟨b1, f1⟩ : ∃ b, z1 % 256 = b := ⟨_, rfl⟩
  obtain ⟨b2, f2⟩ : ∃ b, z2 % 256 = b := ⟨_, rfl⟩
  obtain ⟨b3, f3⟩ : ∃ b, z3 % 256 = b := ⟨_, rfl⟩
  obtain ⟨b4, f4⟩ : ∃ b, z4 % 256 = b := ⟨_, rfl⟩
  obtain ⟨b5, f5⟩ : ∃ b, z5 % 256 = b := ⟨_, rfl⟩
  obtain ⟨b6, f6⟩ : ∃ b, z6 % 256 = b := ⟨_, rfl⟩
  rw [f0] at d0 h0 ⊢; rw [f1] at d1 h1 ⊢; rw [f2] at d2 h2 ⊢; rw [f3] at d3 h3 ⊢; rw [f4] at d4 h4 ⊢; rw [f5] at d5 h5 ⊢; rw [f6] at d6 h6 ⊢
  clear e1 e2 e3 e4 e5 e6 e7 f0 f1 f2 f3 f4 f5 f6
  have ez1 : z1 = b1 + 256 * b2 + 65536 * b3 + 16777216 * b4 + 4294967296 * b5 + 1099511627776 * b6 + 281474976710656 * z7 := by omega
  clear d1 d2 d3 d4 d5 d6
  generalize z7 = b7 at *
  obtain ⟨y, hy⟩ : ∃ y, z + z1 = y := ⟨_, rfl⟩
  rw [hy]
  have ey : y = (b0 + b1) + 256 * (b1 + b2) + 65536 * (b2 + b3) + 16777216 * (b3 + b4) + 4294967296 * (b4 + b5) + 1099511627776 * (b5 + b6) + 281474976710656 * (b6 + b7) + 72057594037927936 * b7 := by omega
  clear hy ez1 d0 hz
  have f2 : y / 65536 = (b2 + b3) + 256 * (b3 + b4) + 65536 * (b4 + b5) + 16777216 * (b5 + b6) + 4294967296 * (b6 + b7) + 1099511627776 * b7 := by omega
  obtain ⟨x, hx⟩ : ∃ x, y + y / 65536 = x := ⟨_, rfl⟩
  rw [hx]
  have ex : x = (b0 + b1 + b2 + b3) + 256 * (b1 + b2 + b3 + b4) + 65536 * (b2 + b3 + b4 + b5) + 16777216 * (b3 + b4 + b5 + b6) + 4294967296 * (b4 + b5 + b6 + b7) + 1099511627776 * (b5 + b6 + b7) + 281474976710656 * (b6 + b7) + 72057594037927936 * b7 := by omega
  have ly : y < 18446744073709551616 := by omega
  clear f2 hx ey
  have f3 : x / 4294967296 = (b4 + b5 + b6 + b7) + 256 * (b5 + b6 + b7) + 65536 * (b6 + b7) + 16777216 * b7 := by omega
  have lx : x < 18446744073709551616 := by omega
  obtain ⟨v, hv⟩ : ∃ v, x / 4294967296 = v := ⟨_, rfl⟩
  rw [hv] at f3 ⊢
  clear hv
  refine ⟨ly, lx, by omega, ?_⟩
  clear ly lx
  subst f3 ex
  omega
/-- the sum of the third step stays a word -/
def pcB_small (b : Nat) : Prop := b / 16 + b < 18446744073709551616
theorem pcB_small_of (a : Nat) : pcB_small (pcB a) := by
  have h1 : a / 4 &&& 3689348814741910323 ≤ 3689348814741910323 := Nat.and_le_right
  have h2 : a &&& 3689348814741910323 ≤ 3689348814741910323 := Nat.and_le_right
  unfold pcB_small pcB; omega
def pcN (x : Nat) : Nat := pcC (pcB (pcA x))
theorem pcN_sum (x : Nat) : sumD 8 8 (pcN x) = onesW x := by
  unfold pcN
  rw [pcC_sum _ (fun i => pcB_digit _ i), pcB_sum, pcA_sum]
end Go.Proofs.YtojoocfnbkgdnaaDoor
