/- Plain mathematics on words: natural numbers below 2^64, no Go in sight. -/
import Derived.Laws.MathBits
import Derived.Laws.BitsAllLaws
import Derived.Lib.TrailingZeros
import Derived.RowKit
import Derived.Calls
namespace Go.Proofs.Ytojoocfnbkgdnaa
open Go.RowKit
set_option linter.unusedVariables false

theorem vint {k : IntKind} {a b : Int} (h : a = b) : Value.int k a = Value.int k b := by rw [h]
theorem vbool {a b : Bool} (h : a = b) : Value.bool a = Value.bool b := by rw [h]
theorem ret1 {a b : Value} (h : a = b) : Ending.returned a = Ending.returned b := by rw [h]
theorem ret2 {a b a' b' : Value} (h : a = a') (h' : b = b') : Ending.returned (.tuple #[a, b]) = Ending.returned (.tuple #[a', b']) := by rw [h, h']
theorem ret3 {a b c a' b' c' : Value} (h : a = a') (h' : b = b') (h'' : c = c') : Ending.returned (.tuple #[a, b, c]) = Ending.returned (.tuple #[a', b', c']) := by rw [h, h', h'']

theorem nat_u64 {a : Int} (h : (Lit.int .u64 a).wf = true) : ∃ n : Nat, a = n ∧ n < 18446744073709551616 := by
  have : 0 ≤ a ∧ a ≤ 18446744073709551615 := by
    simpa [Lit.wf, IntKind.min, IntKind.max, IntKind.signed, IntKind.bits] using h
  exact ⟨a.toNat, by omega, by omega⟩

/-- a count as it counts, at most m -/
def clamp (n : Int) (m : Nat) : Nat := (min (max n 0) (m : Int)).toNat
theorem clamp_le (n : Int) (m : Nat) : clamp n m ≤ m := by unfold clamp; omega
theorem clamp_of (n : Int) (m : Nat) (h0 : 0 ≤ n) (h : n ≤ m) : clamp n m = n.toNat := by unfold clamp; omega
theorem clamp_neg (n : Int) (m : Nat) (h0 : n < 0) : clamp n m = 0 := by unfold clamp; omega
theorem clamp_big (n : Int) (m : Nat) (h0 : (m : Int) < n) : clamp n m = m := by unfold clamp; omega

theorem or_nat (a b : Nat) (ha : a < 18446744073709551616) (hb : b < 18446744073709551616) : bits .or .u64 (a : Int) (b : Int) = ((a ||| b : Nat) : Int) := u64_or_nat a b ha hb
theorem and_nat (a b : Nat) (ha : a < 18446744073709551616) (hb : b < 18446744073709551616) : bits .and .u64 (a : Int) (b : Int) = ((a &&& b : Nat) : Int) := u64_and_nat a b ha hb
theorem xor_nat (a b : Nat) (ha : a < 18446744073709551616) (hb : b < 18446744073709551616) : bits .xor .u64 (a : Int) (b : Int) = ((a ^^^ b : Nat) : Int) := u64_xor_nat a b ha hb
theorem wrap_nat (a : Nat) : IntKind.u64.wrap (a : Int) = ((a % 18446744073709551616 : Nat) : Int) := by rw [IntKind.wrap_u64]; omega
theorem wrap_lt (a : Nat) (h : a < 18446744073709551616) : IntKind.u64.wrap (a : Int) = (a : Int) := by rw [IntKind.wrap_u64]; omega

theorem and_low (x : Int) (k : Nat) (hk : k ≤ 64) : bits .and .u64 x (((2 ^ k - 1 : Nat)) : Int) = x % 2 ^ k := by
  have hp : 2 ^ k ≤ 2 ^ 64 := Nat.pow_le_pow_right (by decide) hk
  have h1 : 0 < 2 ^ k := Nat.two_pow_pos k
  obtain ⟨y, hy⟩ : ∃ y : Nat, x % 18446744073709551616 = y := ⟨(x % 18446744073709551616).toNat, by omega⟩
  have e : bits .and .u64 x ((2 ^ k - 1 : Nat) : Int) = bits .and .u64 (y : Int) ((2 ^ k - 1 : Nat) : Int) := by
    unfold bits
    have : BitVec.ofInt IntKind.u64.bits x = BitVec.ofInt IntKind.u64.bits (y : Int) := by
      apply BitVec.eq_of_toInt_eq
      rw [BitVec.toInt_ofInt, BitVec.toInt_ofInt]
      show Int.bmod x (2 ^ 64) = Int.bmod (y : Int) (2 ^ 64)
      rw [← hy]
      exact (Int.emod_bmod x (2 ^ 64)).symm
    simp only [this]
  have hpi : ((2 ^ k : Nat) : Int) = 2 ^ k := by simp
  rw [e, u64_and_nat y (2 ^ k - 1) (by omega) (by omega), Nat.and_two_pow_sub_one_eq_mod]
  rw [Int.natCast_emod, ← hy, hpi]
  exact Int.emod_emod_of_dvd x ⟨2 ^ (64 - k), by rw [← Int.pow_add, show k + (64 - k) = 64 by omega]; rfl⟩
theorem and_mask32 (x : Int) : bits .and .u64 x 4294967295 = x % 4294967296 := and_low x 32 (by decide)
theorem mask_int (m : Nat) (hm : m ≤ 64) : IntKind.u64.wrap (IntKind.u64.wrap (2 ^ m) - 1) = ((2 ^ m - 1 : Nat) : Int) := by
  have h1 : 0 < 2 ^ m := Nat.two_pow_pos m
  have hp : 2 ^ m ≤ 2 ^ 64 := Nat.pow_le_pow_right (by decide) hm
  have e : ((2 : Int) ^ m) = ((2 ^ m : Nat) : Int) := by simp
  rw [e, IntKind.wrap_u64, IntKind.wrap_u64]
  omega

theorem pow_shl (a j : Nat) : 2 * (a * 2 ^ j % 18446744073709551616) % 18446744073709551616 = a * 2 ^ (j + 1) % 18446744073709551616 := by
  rw [Nat.mul_mod_mod, Nat.pow_succ, ← Nat.mul_assoc a, Nat.mul_comm _ 2]
theorem mask_int' (m : Nat) (hm : m ≤ 64) : IntKind.u64.wrap (((1 * 2 ^ m % 18446744073709551616 : Nat) : Int) - 1) = ((2 ^ m - 1 : Nat) : Int) := by
  have h1 : 0 < 2 ^ m := Nat.two_pow_pos m
  have hp : 2 ^ m ≤ 2 ^ 64 := Nat.pow_le_pow_right (by decide) hm
  rw [IntKind.wrap_u64]
  omega

theorem mask_int2 (m : Nat) (hm : m ≤ 64) : IntKind.u64.wrap ((2 : Int) ^ m % 18446744073709551616 - 1) = ((2 ^ m - 1 : Nat) : Int) := by
  rw [← mask_int' m hm]
  have e : ((2 : Int) ^ m) = ((2 ^ m : Nat) : Int) := by simp
  rw [e, Nat.one_mul]
  simp
theorem half_int (y : Nat) (h : y < 18446744073709551616) : IntKind.u64.wrap ((y : Int) / 2) = ((y / 2 : Nat) : Int) := by rw [IntKind.wrap_u64]; omega

/-! sums, differences -/
def addv (a b : Nat) (c : Bool) : Nat := (a + b + c.toNat) % 18446744073709551616
def addc (a b : Nat) (c : Bool) : Bool := decide (18446744073709551616 ≤ a + b + c.toNat)
def subv (a b : Nat) (c : Bool) : Nat := (a + 18446744073709551616 - (b + c.toNat)) % 18446744073709551616
def subc (a b : Nat) (c : Bool) : Bool := decide (a < b + c.toNat)
def mulh (a b : Nat) : Nat := a * b / 18446744073709551616
def mull (a b : Nat) : Nat := a * b % 18446744073709551616
theorem addv_lt (a b : Nat) (c : Bool) : addv a b c < 18446744073709551616 := Nat.mod_lt _ (by decide)
theorem subv_lt (a b : Nat) (c : Bool) : subv a b c < 18446744073709551616 := Nat.mod_lt _ (by decide)
theorem mull_lt (a b : Nat) : mull a b < 18446744073709551616 := Nat.mod_lt _ (by decide)
theorem mulh_lt (a b : Nat) (ha : a < 18446744073709551616) (hb : b < 18446744073709551616) : mulh a b < 18446744073709551616 := by
  unfold mulh
  rw [Nat.div_lt_iff_lt_mul (by decide)]
  exact Nat.mul_lt_mul_of_lt_of_lt ha hb
theorem addv_int (a b : Nat) (c : Bool) : IntKind.u64.wrap (IntKind.u64.wrap ((a : Int) + b) + c.toNat) = ((addv a b c : Nat) : Int) := by
  rw [IntKind.wrap_u64, IntKind.wrap_u64]; unfold addv; omega
theorem addc_lt (a b : Nat) (c : Bool) (ha : a < 18446744073709551616) (hb : b < 18446744073709551616) (h : IntKind.u64.wrap ((a : Int) + b) < a) : addc a b c = true := by
  rw [IntKind.wrap_u64] at h; unfold addc; rw [decide_eq_true_eq]; omega
theorem addc_f (a b : Nat) (ha : a < 18446744073709551616) (hb : b < 18446744073709551616) (h : (a : Int) ≤ IntKind.u64.wrap ((a : Int) + b)) : addc a b false = false := by
  rw [IntKind.wrap_u64] at h; unfold addc; rw [decide_eq_false_iff_not]; simp; omega
theorem addc_t (a b : Nat) (ha : a < 18446744073709551616) (hb : b < 18446744073709551616) (h : (a : Int) ≤ IntKind.u64.wrap ((a : Int) + b)) : addc a b true = ((addv a b true : Nat) == 0) := by
  rw [IntKind.wrap_u64] at h
  rw [Bool.eq_iff_iff]; unfold addc addv; simp only [Bool.toNat_true, decide_eq_true_eq, beq_iff_eq]; omega
theorem subv_int (a b : Nat) (c : Bool) (hb : b < 18446744073709551616) : IntKind.u64.wrap (IntKind.u64.wrap ((a : Int) - b) - c.toNat) = ((subv a b c : Nat) : Int) := by
  rw [IntKind.wrap_u64, IntKind.wrap_u64]; unfold subv; have := Bool.toNat_le c; omega

/-- the lowest m bits, their highest one the sign -/
def extv (a m : Nat) : Nat := if a % 2 ^ m < 2 ^ (m - 1) then a % 2 ^ m else a % 2 ^ m + (18446744073709551616 - 2 ^ m)


/-! bits -/
theorem bit_eq (a i : Nat) : (bits .and .u64 ((a : Int) / 2 ^ i) 1 == 1) = a.testBit i := by
  have e : ((a : Int) / 2 ^ i) = ((a / 2 ^ i : Nat) : Int) := by simp
  have h1 := and_low ((a / 2 ^ i : Nat) : Int) 1 (by decide)
  rw [e, show ((1 : Int)) = ((2 ^ 1 - 1 : Nat) : Int) by rfl, h1, Nat.testBit_eq_decide_div_mod_eq, Bool.eq_iff_iff]
  simp only [beq_iff_eq, decide_eq_true_eq]
  omega
theorem mod_succ (a k : Nat) : a % 2 ^ (k + 1) = a % 2 ^ k + (a.testBit k).toNat * 2 ^ k := by
  rw [Nat.pow_succ, Nat.mod_mul, Nat.testBit_eq_decide_div_mod_eq, Nat.mul_comm]
  congr 1
  congr 1
  rcases Nat.mod_two_eq_zero_or_one (a / 2 ^ k) with h | h <;> simp [h]
theorem or_top (s k : Nat) (hk : k < 64) (hs : s < 2 ^ k) : bits .or .u64 (s : Int) (IntKind.u64.wrap (2 ^ k)) = ((s + 2 ^ k : Nat) : Int) := by
  have hp : 2 ^ k < 2 ^ 64 := Nat.pow_lt_pow_right (by decide) hk
  have e : ((2 : Int) ^ k) = ((2 ^ k : Nat) : Int) := by simp
  rw [e, wrap_lt _ hp, or_nat s (2 ^ k) (by omega) hp, Nat.or_comm]
  have := Nat.two_pow_add_eq_or_of_lt hs 1
  rw [Nat.mul_one] at this
  rw [← this]
  omega

/-- what a sum of k bits and its carry are -/
def SumI (a b : Nat) (c : Bool) (k s : Nat) (cr : Bool) : Prop := s < 2 ^ k ∧ s + cr.toNat * 2 ^ k = a % 2 ^ k + b % 2 ^ k + c.toNat
theorem SumI.start (a b : Nat) (c : Bool) : SumI a b c 0 0 c := ⟨by decide, by simp [Nat.mod_one]⟩
theorem SumI.step {a b : Nat} {c : Bool} {k s : Nat} {cr x y : Bool} (h : SumI a b c k s cr) (hx : a.testBit k = x) (hy : b.testBit k = y) :
    SumI a b c (k + 1) (if ((x != y) != cr) = true then s + 2 ^ k else s) (x && y || x && cr || y && cr) := by
  obtain ⟨h1, h2⟩ := h
  unfold SumI
  rw [mod_succ a k, mod_succ b k, hx, hy, Nat.pow_succ]
  cases x <;> cases y <;> cases cr <;> simp at h2 ⊢ <;> omega
theorem SumI.done {a b : Nat} {c : Bool} {s : Nat} {cr : Bool} (h : SumI a b c 64 s cr) (ha : a < 18446744073709551616) (hb : b < 18446744073709551616) : s = addv a b c ∧ cr = addc a b c := by
  obtain ⟨h1, h2⟩ := h
  rw [Nat.mod_eq_of_lt ha, Nat.mod_eq_of_lt hb] at h2
  unfold addv addc
  cases cr <;> simp at h2 ⊢ <;> omega
def DifI (a b : Nat) (c : Bool) (k s : Nat) (cr : Bool) : Prop := s < 2 ^ k ∧ s + (b % 2 ^ k + c.toNat) = a % 2 ^ k + cr.toNat * 2 ^ k
theorem DifI.start (a b : Nat) (c : Bool) : DifI a b c 0 0 c := ⟨by decide, by simp [Nat.mod_one]⟩
theorem DifI.step {a b : Nat} {c : Bool} {k s : Nat} {cr x y : Bool} (h : DifI a b c k s cr) (hx : a.testBit k = x) (hy : b.testBit k = y) :
    DifI a b c (k + 1) (if ((x != y) != cr) = true then s + 2 ^ k else s) (!x && y || !x && cr || y && cr) := by
  obtain ⟨h1, h2⟩ := h
  unfold DifI
  rw [mod_succ a k, mod_succ b k, hx, hy, Nat.pow_succ]
  cases x <;> cases y <;> cases cr <;> simp at h2 ⊢ <;> omega
theorem DifI.done {a b : Nat} {c : Bool} {s : Nat} {cr : Bool} (h : DifI a b c 64 s cr) (ha : a < 18446744073709551616) (hb : b < 18446744073709551616) : s = subv a b c ∧ cr = subc a b c := by
  obtain ⟨h1, h2⟩ := h
  rw [Nat.mod_eq_of_lt ha, Nat.mod_eq_of_lt hb] at h2
  unfold subv subc
  cases cr <;> simp at h2 ⊢ <;> omega


/-! a product, bit by bit from above -/
theorem shl1_or (r l : Nat) (hl : l < 18446744073709551616) : bits .or .u64 (IntKind.u64.wrap ((r : Int) * 2)) ((l : Int) / 9223372036854775808) = (((2 * r + l / 9223372036854775808) % 18446744073709551616 : Nat) : Int) := by
  have e1 : IntKind.u64.wrap ((r : Int) * 2) = ((2 ^ 1 * (r % 9223372036854775808) : Nat) : Int) := by rw [IntKind.wrap_u64]; omega
  have e2 : ((l : Int) / 9223372036854775808) = ((l / 9223372036854775808 : Nat) : Int) := by simp
  rw [e1, e2, or_nat _ _ (by omega) (by omega), ← Nat.two_pow_add_eq_or_of_lt (by omega)]
  omega
theorem shl1 (r : Nat) : IntKind.u64.wrap ((r : Int) * 2) = ((2 * r % 18446744073709551616 : Nat) : Int) := by rw [IntKind.wrap_u64]; omega
theorem or_one (q : Nat) : bits .or .u64 (IntKind.u64.wrap ((q : Int) * 2)) 1 = (((2 * q + 1) % 18446744073709551616 : Nat) : Int) := by
  have e1 : IntKind.u64.wrap ((q : Int) * 2) = ((2 ^ 1 * (q % 9223372036854775808) : Nat) : Int) := by rw [IntKind.wrap_u64]; omega
  rw [e1, show (1 : Int) = ((1 : Nat) : Int) by rfl, or_nat _ _ (by omega) (by omega), ← Nat.two_pow_add_eq_or_of_lt (by omega)]
  omega
theorem div_bit (b m : Nat) : b / 2 ^ m = 2 * (b / 2 ^ (m + 1)) + (b.testBit m).toNat := by
  rw [Nat.pow_succ, ← Nat.div_div_eq_div_mul, Nat.testBit_eq_decide_div_mod_eq]
  rcases Nat.mod_two_eq_zero_or_one (b / 2 ^ m) with h | h <;> simp [h] <;> omega
def MulI (a b n hi lo : Nat) : Prop := hi < 18446744073709551616 ∧ lo < 18446744073709551616 ∧ hi * 18446744073709551616 + lo = a * (b / 2 ^ n)
theorem MulI.start (a b : Nat) (hb : b < 18446744073709551616) : MulI a b 64 0 0 := ⟨by decide, by decide, by rw [Nat.div_eq_of_lt (by omega)]; omega⟩
theorem MulI.step {a b m hi lo : Nat} {x : Bool} (h : MulI a b (m + 1) hi lo) (ha : a < 18446744073709551616) (hb : b < 18446744073709551616) (hx : b.testBit m = x) :
    MulI a b m ((2 * hi + lo / 9223372036854775808) % 18446744073709551616 + (if x = true then (addc (2 * lo % 18446744073709551616) a false).toNat else 0)) (if x = true then addv (2 * lo % 18446744073709551616) a false else 2 * lo % 18446744073709551616) := by
  obtain ⟨h1, h2, h3⟩ := h
  have hq := div_bit b m
  rw [hx] at hq
  have hle : b / 2 ^ m ≤ b := Nat.div_le_self _ _
  have hbd : a * (b / 2 ^ m) < 18446744073709551616 * 18446744073709551616 := Nat.lt_of_le_of_lt (Nat.mul_le_mul_left a hle) (Nat.mul_lt_mul_of_lt_of_lt ha hb)
  have he : a * (b / 2 ^ m) = 2 * (a * (b / 2 ^ (m + 1))) + a * x.toNat := by rw [hq, Nat.mul_add, Nat.mul_left_comm]
  rw [← h3] at he
  obtain ⟨u, hu⟩ : ∃ u, lo / 9223372036854775808 = u := ⟨_, rfl⟩
  obtain ⟨v, hv⟩ : ∃ v, 2 * lo % 18446744073709551616 = v := ⟨_, rfl⟩
  have huv : 2 * lo = u * 18446744073709551616 + v := by omega
  have hv2 : v < 18446744073709551616 := by omega
  have hsum : 2 * (hi * 18446744073709551616 + lo) = (2 * hi + u) * 18446744073709551616 + v := by omega
  rw [hsum] at he
  rw [he] at hbd
  rw [hu, hv]
  clear hu hv huv hsum hq hle h3 hx
  generalize 2 * hi + u = s at *
  have hs : s < 18446744073709551616 := by omega
  rw [Nat.mod_eq_of_lt hs]
  unfold MulI
  rw [he]
  clear he h1 h2
  cases x
  · simp only [Bool.toNat_false, Nat.mul_zero, Nat.add_zero, Bool.false_eq_true, if_false] at *
    exact ⟨hs, hv2, trivial⟩
  · simp only [Bool.toNat_true, Nat.mul_one, if_true, addc, addv, Bool.toNat_false, Nat.add_zero] at *
    by_cases hc : 18446744073709551616 ≤ v + a
    · rw [decide_eq_true hc]
      simp only [Bool.toNat_true]
      have hm : (v + a) % 18446744073709551616 = v + a - 18446744073709551616 := by omega
      rw [hm]
      clear hm
      omega
    · rw [decide_eq_false hc]
      simp only [Bool.toNat_false, Nat.add_zero]
      rw [Nat.mod_eq_of_lt (by omega)]
      omega
theorem MulI.done {a b hi lo : Nat} (h : MulI a b 0 hi lo) : hi = mulh a b ∧ lo = mull a b := by
  obtain ⟨h1, h2, h3⟩ := h
  rw [Nat.pow_zero, Nat.div_one] at h3
  unfold mulh mull
  omega

/-! a quotient, bit by bit from above -/
def DivI (hi lo b k q r : Nat) : Prop := (hi * 18446744073709551616 + lo) / 2 ^ (64 - k) = q * b + r ∧ r < b ∧ q < 2 ^ k
theorem DivI.start {hi lo b : Nat} (hlo : lo < 18446744073709551616) (h : hi < b) : DivI hi lo b 0 0 hi := ⟨by omega, h, by decide⟩
theorem DivI.step {hi lo b k q r : Nat} {x : Bool} (h : DivI hi lo b k q r) (hk : k < 64) (hlo : lo < 18446744073709551616) (hx : lo.testBit (63 - k) = x) :
    (b ≤ 2 * r + x.toNat → DivI hi lo b (k + 1) (2 * q + 1) (2 * r + x.toNat - b)) ∧ (2 * r + x.toNat < b → DivI hi lo b (k + 1) (2 * q) (2 * r + x.toNat)) := by
  obtain ⟨h1, h2, h3⟩ := h
  have hb := div_bit (hi * 18446744073709551616 + lo) (63 - k)
  have ht : (hi * 18446744073709551616 + lo).testBit (63 - k) = x := by
    rw [← hx, Nat.mul_comm]
    have := Nat.testBit_two_pow_mul_add hi (i := 64) (b := lo) hlo (63 - k)
    rw [if_pos (by omega)] at this
    exact this
  rw [ht, show 63 - k + 1 = 64 - k by omega, h1] at hb
  unfold DivI
  rw [show 64 - (k + 1) = 63 - k by omega, hb, Nat.pow_succ, Nat.mul_add, Nat.add_mul, Nat.mul_assoc]
  have := Bool.toNat_le x
  refine ⟨fun hle => ⟨by omega, by omega, by omega⟩, fun hlt => ⟨by omega, by omega, by omega⟩⟩
theorem DivI.done {hi lo b q r : Nat} (h : DivI hi lo b 64 q r) : q = (hi * 18446744073709551616 + lo) / b ∧ r = (hi * 18446744073709551616 + lo) % b := by
  obtain ⟨h1, h2, h3⟩ := h
  rw [Nat.sub_self, Nat.pow_zero, Nat.div_one] at h1
  rw [h1]
  refine ⟨?_, ?_⟩
  · rw [Nat.mul_comm, Nat.mul_add_div (by omega), Nat.div_eq_of_lt h2, Nat.add_zero]
  · rw [Nat.mul_comm, Nat.mul_add_mod, Nat.mod_eq_of_lt h2]
theorem DivI.bounds {hi lo b k q r : Nat} (h : DivI hi lo b k q r) (hk : k ≤ 64) (hb : b < 18446744073709551616) : r < 18446744073709551616 ∧ q < 18446744073709551616 :=
  ⟨by have := h.2.1; omega, Nat.lt_of_lt_of_le h.2.2 (Nat.pow_le_pow_right (by decide : 2 > 0) hk)⟩

end Go.Proofs.Ytojoocfnbkgdnaa
