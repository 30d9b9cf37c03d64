/- Plain mathematics on words: natural numbers below 2^64, no Go in sight. -/
import Derived.Laws.MathBits
import Derived.Laws.BitsAllLaws
import Derived.Lib.TrailingZeros
import Derived.Lib.BitFns
import Derived.RowKit
import Derived.Calls
namespace Go.Proofs.Yteelconabmfnkaa
open Go.RowKit
set_option linter.unusedVariables false

theorem vint {k : IntKind} {a b : Int} (h : a = b) : Value.int k a = Value.int k b := by rw [h]
theorem vbool {a b : Bool} (h : a = b) : Value.bool a = Value.bool b := by rw [h]
theorem ret1 {a b : Value} (h : a = b) : Ending.returned a = Ending.returned b := by rw [h]
theorem ret2 {a b a' b' : Value} (h : a = a') (h' : b = b') : Ending.returned (.tuple #[a, b]) = Ending.returned (.tuple #[a', b']) := by rw [h, h']
theorem ret3 {a b c a' b' c' : Value} (h : a = a') (h' : b = b') (h'' : c = c') : Ending.returned (.tuple #[a, b, c]) = Ending.returned (.tuple #[a', b', c']) := by rw [h, h', h'']

theorem nat_u64 {a : Int} (h : (Lit.int .u64 a).wf = true) : ∃ n : Nat, a = n ∧ n < 18446744073709551616 := by
  have : 0 ≤ a ∧ a ≤ 18446744073709551615 := by
    simpa [Lit.wf, IntKind.min, IntKind.max, IntKind.signed, IntKind.bits] using h
  exact ⟨a.toNat, by omega, by omega⟩

/-- a count as it counts, at most m -/
def clamp (n : Int) (m : Nat) : Nat := (min (max n 0) (m : Int)).toNat
theorem clamp_le (n : Int) (m : Nat) : clamp n m ≤ m := by unfold clamp; omega
theorem clamp_of (n : Int) (m : Nat) (h0 : 0 ≤ n) (h : n ≤ m) : clamp n m = n.toNat := by unfold clamp; omega
theorem clamp_neg (n : Int) (m : Nat) (h0 : n < 0) : clamp n m = 0 := by unfold clamp; omega
theorem clamp_big (n : Int) (m : Nat) (h0 : (m : Int) < n) : clamp n m = m := by unfold clamp; omega

theorem or_nat (a b : Nat) (ha : a < 18446744073709551616) (hb : b < 18446744073709551616) : bits .or .u64 (a : Int) (b : Int) = ((a ||| b : Nat) : Int) := u64_or_nat a b ha hb
theorem and_nat (a b : Nat) (ha : a < 18446744073709551616) (hb : b < 18446744073709551616) : bits .and .u64 (a : Int) (b : Int) = ((a &&& b : Nat) : Int) := u64_and_nat a b ha hb
theorem xor_nat (a b : Nat) (ha : a < 18446744073709551616) (hb : b < 18446744073709551616) : bits .xor .u64 (a : Int) (b : Int) = ((a ^^^ b : Nat) : Int) := u64_xor_nat a b ha hb
theorem wrap_nat (a : Nat) : IntKind.u64.wrap (a : Int) = ((a % 18446744073709551616 : Nat) : Int) := by rw [IntKind.wrap_u64]; omega
theorem wrap_lt (a : Nat) (h : a < 18446744073709551616) : IntKind.u64.wrap (a : Int) = (a : Int) := by rw [IntKind.wrap_u64]; omega

theorem and_low (x : Int) (k : Nat) (hk : k ≤ 64) : bits .and .u64 x (((2 ^ k - 1 : Nat)) : Int) = x % 2 ^ k := by
  have hp : 2 ^ k ≤ 2 ^ 64 := Nat.pow_le_pow_right (by decide) hk
  have h1 : 0 < 2 ^ k := Nat.two_pow_pos k
  obtain ⟨y, hy⟩ : ∃ y : Nat, x % 18446744073709551616 = y := ⟨(x % 18446744073709551616).toNat, by omega⟩
  have e : bits .and .u64 x ((2 ^ k - 1 : Nat) : Int) = bits .and .u64 (y : Int) ((2 ^ k - 1 : Nat) : Int) := by
    unfold bits
    have : BitVec.ofInt IntKind.u64.bits x = BitVec.ofInt IntKind.u64.bits (y : Int) := by
      apply BitVec.eq_of_toInt_eq
      rw [BitVec.toInt_ofInt, BitVec.toInt_ofInt]
      show Int.bmod x (2 ^ 64) = Int.bmod (y : Int) (2 ^ 64)
      rw [← hy]
      exact (Int.emod_bmod x (2 ^ 64)).symm
    simp only [this]
  have hpi : ((2 ^ k : Nat) : Int) = 2 ^ k := by simp
  rw [e, u64_and_nat y (2 ^ k - 1) (by omega) (by omega), Nat.and_two_pow_sub_one_eq_mod]
  rw [Int.natCast_emod, ← hy, hpi]
  exact Int.emod_emod_of_dvd x ⟨2 ^ (64 - k), by rw [← Int.pow_add, show k + (64 - k) = 64 by omega]; rfl⟩
theorem and_mask32 (x : Int) : bits .and .u64 x 4294967295 = x % 4294967296 := and_low x 32 (by decide)
theorem mask_int (m : Nat) (hm : m ≤ 64) : IntKind.u64.wrap (IntKind.u64.wrap (2 ^ m) - 1) = ((2 ^ m - 1 : Nat) : Int) := by
  have h1 : 0 < 2 ^ m := Nat.two_pow_pos m
  have hp : 2 ^ m ≤ 2 ^ 64 := Nat.pow_le_pow_right (by decide) hm
  have e : ((2 : Int) ^ m) = ((2 ^ m : Nat) : Int) := by simp
  rw [e, IntKind.wrap_u64, IntKind.wrap_u64]
  omega

theorem pow_shl (a j : Nat) : 2 * (a * 2 ^ j % 18446744073709551616) % 18446744073709551616 = a * 2 ^ (j + 1) % 18446744073709551616 := by
  rw [Nat.mul_mod_mod, Nat.pow_succ, ← Nat.mul_assoc a, Nat.mul_comm _ 2]
theorem mask_int' (m : Nat) (hm : m ≤ 64) : IntKind.u64.wrap (((1 * 2 ^ m % 18446744073709551616 : Nat) : Int) - 1) = ((2 ^ m - 1 : Nat) : Int) := by
  have h1 : 0 < 2 ^ m := Nat.two_pow_pos m
  have hp : 2 ^ m ≤ 2 ^ 64 := Nat.pow_le_pow_right (by decide) hm
  rw [IntKind.wrap_u64]
  omega

theorem mask_int2 (m : Nat) (hm : m ≤ 64) : IntKind.u64.wrap ((2 : Int) ^ m % 18446744073709551616 - 1) = ((2 ^ m - 1 : Nat) : Int) := by
  rw [← mask_int' m hm]
  have e : ((2 : Int) ^ m) = ((2 ^ m : Nat) : Int) := by simp
  rw [e, Nat.one_mul]
  simp
theorem half_int (y : Nat) (h : y < 18446744073709551616) : IntKind.u64.wrap ((y : Int) / 2) = ((y / 2 : Nat) : Int) := by rw [IntKind.wrap_u64]; omega

/-! sums, differences -/
def addv (a b : Nat) (c : Bool) : Nat := (a + b + c.toNat) % 18446744073709551616
def addc (a b : Nat) (c : Bool) : Bool := decide (18446744073709551616 ≤ a + b + c.toNat)
/- (no numeral is added to a variable here: the kernel would count it down) -/
def subv (a b : Nat) (c : Bool) : Nat := (18446744073709551616 - (b + c.toNat) + a) % 18446744073709551616
def subc (a b : Nat) (c : Bool) : Bool := decide (a < b + c.toNat)
def mulh (a b : Nat) : Nat := a * b / 18446744073709551616
def mull (a b : Nat) : Nat := a * b % 18446744073709551616
theorem addv_lt (a b : Nat) (c : Bool) : addv a b c < 18446744073709551616 := Nat.mod_lt _ (by decide)
theorem subv_lt (a b : Nat) (c : Bool) : subv a b c < 18446744073709551616 := Nat.mod_lt _ (by decide)
theorem mull_lt (a b : Nat) : mull a b < 18446744073709551616 := Nat.mod_lt _ (by decide)
theorem mulh_lt (a b : Nat) (ha : a < 18446744073709551616) (hb : b < 18446744073709551616) : mulh a b < 18446744073709551616 := by
  unfold mulh
  rw [Nat.div_lt_iff_lt_mul (by decide)]
  exact Nat.mul_lt_mul_of_lt_of_lt ha hb
theorem addv_int (a b : Nat) (c : Bool) : IntKind.u64.wrap (IntKind.u64.wrap ((a : Int) + b) + c.toNat) = ((addv a b c : Nat) : Int) := by
  rw [IntKind.wrap_u64, IntKind.wrap_u64]; unfold addv; omega
theorem addc_lt (a b : Nat) (c : Bool) (ha : a < 18446744073709551616) (hb : b < 18446744073709551616) (h : IntKind.u64.wrap ((a : Int) + b) < a) : addc a b c = true := by
  rw [IntKind.wrap_u64] at h; unfold addc; rw [decide_eq_true_eq]; omega
theorem addc_f (a b : Nat) (ha : a < 18446744073709551616) (hb : b < 18446744073709551616) (h : (a : Int) ≤ IntKind.u64.wrap ((a : Int) + b)) : addc a b false = false := by
  rw [IntKind.wrap_u64] at h; unfold addc; rw [decide_eq_false_iff_not]; simp; omega
theorem addc_t (a b : Nat) (ha : a < 18446744073709551616) (hb : b < 18446744073709551616) (h : (a : Int) ≤ IntKind.u64.wrap ((a : Int) + b)) : addc a b true = ((addv a b true : Nat) == 0) := by
  rw [IntKind.wrap_u64] at h
  rw [Bool.eq_iff_iff]; unfold addc addv; simp only [Bool.toNat_true, decide_eq_true_eq, beq_iff_eq]; omega
theorem subv_int (a b : Nat) (c : Bool) (hb : b < 18446744073709551616) : IntKind.u64.wrap (IntKind.u64.wrap ((a : Int) - b) - c.toNat) = ((subv a b c : Nat) : Int) := by
  rw [IntKind.wrap_u64, IntKind.wrap_u64]; unfold subv; have := Bool.toNat_le c; omega

/-- the lowest m bits, their highest one the sign -/
def extv (a m : Nat) : Nat := if a % 2 ^ m < 2 ^ (m - 1) then a % 2 ^ m else a % 2 ^ m + (18446744073709551616 - 2 ^ m)


/-! bits -/
theorem bit_eq (a i : Nat) : (bits .and .u64 ((a : Int) / 2 ^ i) 1 == 1) = a.testBit i := by
  have e : ((a : Int) / 2 ^ i) = ((a / 2 ^ i : Nat) : Int) := by simp
  have h1 := and_low ((a / 2 ^ i : Nat) : Int) 1 (by decide)
  rw [e, show ((1 : Int)) = ((2 ^ 1 - 1 : Nat) : Int) by rfl, h1, Nat.testBit_eq_decide_div_mod_eq, Bool.eq_iff_iff]
  simp only [beq_iff_eq, decide_eq_true_eq]
  omega
theorem mod_succ (a k : Nat) : a % 2 ^ (k + 1) = a % 2 ^ k + (a.testBit k).toNat * 2 ^ k := by
  rw [Nat.pow_succ, Nat.mod_mul, Nat.testBit_eq_decide_div_mod_eq, Nat.mul_comm]
  congr 1
  congr 1
  rcases Nat.mod_two_eq_zero_or_one (a / 2 ^ k) with h | h <;> simp [h]
theorem or_top (s k : Nat) (hk : k < 64) (hs : s < 2 ^ k) : bits .or .u64 (s : Int) (IntKind.u64.wrap (2 ^ k)) = ((s + 2 ^ k : Nat) : Int) := by
  have hp : 2 ^ k < 2 ^ 64 := Nat.pow_lt_pow_right (by decide) hk
  have e : ((2 : Int) ^ k) = ((2 ^ k : Nat) : Int) := by simp
  rw [e, wrap_lt _ hp, or_nat s (2 ^ k) (by omega) hp, Nat.or_comm]
  have := Nat.two_pow_add_eq_or_of_lt hs 1
  rw [Nat.mul_one] at this
  rw [← this]
  omega

/-- what a sum of k bits and its carry are -/
def SumI (a b : Nat) (c : Bool) (k s : Nat) (cr : Bool) : Prop := s < 2 ^ k ∧ s + cr.toNat * 2 ^ k = a % 2 ^ k + b % 2 ^ k + c.toNat
theorem SumI.start (a b : Nat) (c : Bool) : SumI a b c 0 0 c := ⟨by decide, by simp [Nat.mod_one]⟩
theorem SumI.step {a b : Nat} {c : Bool} {k s : Nat} {cr x y : Bool} (h : SumI a b c k s cr) (hx : a.testBit k = x) (hy : b.testBit k = y) :
    SumI a b c (k + 1) (if ((x != y) != cr) = true then s + 2 ^ k else s) (x && y || x && cr || y && cr) := by
  obtain ⟨h1, h2⟩ := h
  unfold SumI
  rw [mod_succ a k, mod_succ b k, hx, hy, Nat.pow_succ]
  cases x <;> cases y <;> cases cr <;> simp at h2 ⊢ <;> omega
theorem SumI.done {a b : Nat} {c : Bool} {s : Nat} {cr : Bool} (h : SumI a b c 64 s cr) (ha : a < 18446744073709551616) (hb : b < 18446744073709551616) : s = addv a b c ∧ cr = addc a b c := by
  obtain ⟨h1, h2⟩ := h
  rw [Nat.mod_eq_of_lt ha, Nat.mod_eq_of_lt hb] at h2
  unfold addv addc
  cases cr <;> simp at h2 ⊢ <;> omega
def DifI (a b : Nat) (c : Bool) (k s : Nat) (cr : Bool) : Prop := s < 2 ^ k ∧ s + (b % 2 ^ k + c.toNat) = a % 2 ^ k + cr.toNat * 2 ^ k
theorem DifI.start (a b : Nat) (c : Bool) : DifI a b c 0 0 c := ⟨by decide, by simp [Nat.mod_one]⟩
theorem DifI.step {a b : Nat} {c : Bool} {k s : Nat} {cr x y : Bool} (h : DifI a b c k s cr) (hx : a.testBit k = x) (hy : b.testBit k = y) :
    DifI a b c (k + 1) (if ((x != y) != cr) = true then s + 2 ^ k else s) (!x && y || !x && cr || y && cr) := by
  obtain ⟨h1, h2⟩ := h
  unfold DifI
  rw [mod_succ a k, mod_succ b k, hx, hy, Nat.pow_succ]
  cases x <;> cases y <;> cases cr <;> simp at h2 ⊢ <;> omega
theorem DifI.done {a b : Nat} {c : Bool} {s : Nat} {cr : Bool} (h : DifI a b c 64 s cr) (ha : a < 18446744073709551616) (hb : b < 18446744073709551616) : s = subv a b c ∧ cr = subc a b c := by
  obtain ⟨h1, h2⟩ := h
  rw [Nat.mod_eq_of_lt ha, Nat.mod_eq_of_lt hb] at h2
  have hc1 := Bool.toNat_le c
  unfold subv subc
  cases cr <;> simp at h2 ⊢ <;> omega


/-! a product, bit by bit from above -/
theorem shl1_or (r l : Nat) (hl : l < 18446744073709551616) : bits .or .u64 (IntKind.u64.wrap ((r : Int) * 2)) ((l : Int) / 9223372036854775808) = (((2 * r + l / 9223372036854775808) % 18446744073709551616 : Nat) : Int) := by
  have e1 : IntKind.u64.wrap ((r : Int) * 2) = ((2 ^ 1 * (r % 9223372036854775808) : Nat) : Int) := by rw [IntKind.wrap_u64]; omega
  have e2 : ((l : Int) / 9223372036854775808) = ((l / 9223372036854775808 : Nat) : Int) := by simp
  rw [e1, e2, or_nat _ _ (by omega) (by omega), ← Nat.two_pow_add_eq_or_of_lt (by omega)]
  omega
theorem shl1 (r : Nat) : IntKind.u64.wrap ((r : Int) * 2) = ((2 * r % 18446744073709551616 : Nat) : Int) := by rw [IntKind.wrap_u64]; omega
theorem or_one (q : Nat) : bits .or .u64 (IntKind.u64.wrap ((q : Int) * 2)) 1 = (((2 * q + 1) % 18446744073709551616 : Nat) : Int) := by
  have e1 : IntKind.u64.wrap ((q : Int) * 2) = ((2 ^ 1 * (q % 9223372036854775808) : Nat) : Int) := by rw [IntKind.wrap_u64]; omega
  rw [e1, show (1 : Int) = ((1 : Nat) : Int) by rfl, or_nat _ _ (by omega) (by omega), ← Nat.two_pow_add_eq_or_of_lt (by omega)]
  omega
theorem div_bit (b m : Nat) : b / 2 ^ m = 2 * (b / 2 ^ (m + 1)) + (b.testBit m).toNat := by
  rw [Nat.pow_succ, ← Nat.div_div_eq_div_mul, Nat.testBit_eq_decide_div_mod_eq]
  rcases Nat.mod_two_eq_zero_or_one (b / 2 ^ m) with h | h <;> simp [h] <;> omega
def MulI (a b n hi lo : Nat) : Prop := hi < 18446744073709551616 ∧ lo < 18446744073709551616 ∧ hi * 18446744073709551616 + lo = a * (b / 2 ^ n)
theorem MulI.start (a b : Nat) (hb : b < 18446744073709551616) : MulI a b 64 0 0 := ⟨by decide, by decide, by rw [Nat.div_eq_of_lt (by omega)]; omega⟩
theorem MulI.step {a b m hi lo : Nat} {x : Bool} (h : MulI a b (m + 1) hi lo) (ha : a < 18446744073709551616) (hb : b < 18446744073709551616) (hx : b.testBit m = x) :
    MulI a b m ((2 * hi + lo / 9223372036854775808) % 18446744073709551616 + (if x = true then (addc (2 * lo % 18446744073709551616) a false).toNat else 0)) (if x = true then addv (2 * lo % 18446744073709551616) a false else 2 * lo % 18446744073709551616) := by
  obtain ⟨h1, h2, h3⟩ := h
  have hq := div_bit b m
  rw [hx] at hq
  have hle : b / 2 ^ m ≤ b := Nat.div_le_self _ _
  have hbd : a * (b / 2 ^ m) < 18446744073709551616 * 18446744073709551616 := Nat.lt_of_le_of_lt (Nat.mul_le_mul_left a hle) (Nat.mul_lt_mul_of_lt_of_lt ha hb)
  have he : a * (b / 2 ^ m) = 2 * (a * (b / 2 ^ (m + 1))) + a * x.toNat := by rw [hq, Nat.mul_add, Nat.mul_left_comm]
  rw [← h3] at he
  obtain ⟨u, hu⟩ : ∃ u, lo / 9223372036854775808 = u := ⟨_, rfl⟩
  obtain ⟨v, hv⟩ : ∃ v, 2 * lo % 18446744073709551616 = v := ⟨_, rfl⟩
  have huv : 2 * lo = u * 18446744073709551616 + v := by omega
  have hv2 : v < 18446744073709551616 := by omega
  have hsum : 2 * (hi * 18446744073709551616 + lo) = (2 * hi + u) * 18446744073709551616 + v := by omega
  rw [hsum] at he
  rw [he] at hbd
  rw [hu, hv]
  clear hu hv huv hsum hq hle h3 hx
  generalize 2 * hi + u = s at *
  have hs : s < 18446744073709551616 := by omega
  rw [Nat.mod_eq_of_lt hs]
  unfold MulI
  rw [he]
  clear he h1 h2
  cases x
  · simp only [Bool.toNat_false, Nat.mul_zero, Nat.add_zero, Bool.false_eq_true, if_false] at *
    exact ⟨hs, hv2, trivial⟩
  · simp only [Bool.toNat_true, Nat.mul_one, if_true, addc, addv, Bool.toNat_false, Nat.add_zero] at *
    by_cases hc : 18446744073709551616 ≤ v + a
    · rw [decide_eq_true hc]
      simp only [Bool.toNat_true]
      have hm : (v + a) % 18446744073709551616 = v + a - 18446744073709551616 := by omega
      rw [hm]
      clear hm
      omega
    · rw [decide_eq_false hc]
      simp only [Bool.toNat_false, Nat.add_zero]
      rw [Nat.mod_eq_of_lt (by omega)]
      omega
theorem MulI.done {a b hi lo : Nat} (h : MulI a b 0 hi lo) : hi = mulh a b ∧ lo = mull a b := by
  obtain ⟨h1, h2, h3⟩ := h
  rw [Nat.pow_zero, Nat.div_one] at h3
  unfold mulh mull
  omega

/-! a quotient, bit by bit from above -/
def DivI (hi lo b k q r : Nat) : Prop := (hi * 18446744073709551616 + lo) / 2 ^ (64 - k) = q * b + r ∧ r < b ∧ q < 2 ^ k
theorem DivI.start {hi lo b : Nat} (hlo : lo < 18446744073709551616) (h : hi < b) : DivI hi lo b 0 0 hi := ⟨by omega, h, by decide⟩
theorem DivI.step {hi lo b k q r : Nat} {x : Bool} (h : DivI hi lo b k q r) (hk : k < 64) (hlo : lo < 18446744073709551616) (hx : lo.testBit (63 - k) = x) :
    (b ≤ 2 * r + x.toNat → DivI hi lo b (k + 1) (2 * q + 1) (2 * r + x.toNat - b)) ∧ (2 * r + x.toNat < b → DivI hi lo b (k + 1) (2 * q) (2 * r + x.toNat)) := by
  obtain ⟨h1, h2, h3⟩ := h
  have hb := div_bit (hi * 18446744073709551616 + lo) (63 - k)
  have ht : (hi * 18446744073709551616 + lo).testBit (63 - k) = x := by
    rw [← hx, Nat.mul_comm]
    have := Nat.testBit_two_pow_mul_add hi (i := 64) (b := lo) hlo (63 - k)
    rw [if_pos (by omega)] at this
    exact this
  rw [ht, show 63 - k + 1 = 64 - k by omega, h1] at hb
  unfold DivI
  rw [show 64 - (k + 1) = 63 - k by omega, hb, Nat.pow_succ, Nat.mul_add, Nat.add_mul, Nat.mul_assoc]
  have := Bool.toNat_le x
  refine ⟨fun hle => ⟨by omega, by omega, by omega⟩, fun hlt => ⟨by omega, by omega, by omega⟩⟩
theorem DivI.done {hi lo b q r : Nat} (h : DivI hi lo b 64 q r) : q = (hi * 18446744073709551616 + lo) / b ∧ r = (hi * 18446744073709551616 + lo) % b := by
  obtain ⟨h1, h2, h3⟩ := h
  rw [Nat.sub_self, Nat.pow_zero, Nat.div_one] at h1
  rw [h1]
  refine ⟨?_, ?_⟩
  · rw [Nat.mul_comm, Nat.mul_add_div (by omega), Nat.div_eq_of_lt h2, Nat.add_zero]
  · rw [Nat.mul_comm, Nat.mul_add_mod, Nat.mod_eq_of_lt h2]
theorem DivI.bounds {hi lo b k q r : Nat} (h : DivI hi lo b k q r) (hk : k ≤ 64) (hb : b < 18446744073709551616) : r < 18446744073709551616 ∧ q < 18446744073709551616 :=
  ⟨by have := h.2.1; omega, Nat.lt_of_lt_of_le h.2.2 (Nat.pow_le_pow_right (by decide : 2 > 0) hk)⟩


theorem ext_word (a m : Nat) (h1 : 1 ≤ m) (h2 : m ≤ 64) : IntKind.u64.wrap (wrap64 (IntKind.u64.wrap ((a : Int) * 2 ^ (64 - m))) / 2 ^ (64 - m)) = ((extv a m : Nat) : Int) := by
  obtain ⟨p, hp⟩ : ∃ p : Nat, 2 ^ (64 - m) = p := ⟨_, rfl⟩
  obtain ⟨M, hM⟩ : ∃ M : Nat, 2 ^ m = M := ⟨_, rfl⟩
  obtain ⟨K, hK⟩ : ∃ K : Nat, 2 ^ (m - 1) = K := ⟨_, rfl⟩
  have hMp : M * p = 18446744073709551616 := by rw [← hp, ← hM, ← Nat.pow_add, show m + (64 - m) = 64 by omega]
  have hKp : K * p = 9223372036854775808 := by rw [← hp, ← hK, ← Nat.pow_add, show m - 1 + (64 - m) = 63 by omega]
  have hMK : M = 2 * K := by
    have := Nat.pow_succ 2 (m - 1)
    rw [show (m - 1).succ = m by omega] at this
    omega
  have hM0 : 0 < M := by rw [← hM]; exact Nat.two_pow_pos _
  have hp0 : 0 < p := by rw [← hp]; exact Nat.two_pow_pos _
  have hM1 : M ≤ 18446744073709551616 := by rw [← hMp]; exact Nat.le_mul_of_pos_right _ hp0
  have ep : ((2 : Int) ^ (64 - m)) = ((p : Nat) : Int) := by rw [← hp]; simp
  have e1 : IntKind.u64.wrap ((a : Int) * p) = ((a % M * p : Nat) : Int) := by
    rw [IntKind.wrap_u64, ← Nat.mul_mod_mul_right, hMp]; simp
  unfold extv
  rw [ep, e1, hM, hK]
  obtain ⟨t, ht⟩ : ∃ t, a % M = t := ⟨_, rfl⟩
  have htM : t < M := by rw [← ht]; exact Nat.mod_lt _ hM0
  rw [ht]
  have hpz : (p : Int) ≠ 0 := by omega
  by_cases hlt : t < K
  · rw [if_pos hlt]
    have hb : t * p < 9223372036854775808 := by rw [← hKp]; exact Nat.mul_lt_mul_of_pos_right hlt hp0
    have e2 : wrap64 ((t * p : Nat) : Int) = (t : Int) * p := by unfold wrap64; simp only [Int.natCast_mul] at *; omega
    rw [e2, Int.mul_ediv_cancel _ hpz, wrap_lt t (by omega)]
  · rw [if_neg hlt]
    have hb : 9223372036854775808 ≤ t * p := by rw [← hKp]; exact Nat.mul_le_mul_right p (by omega)
    have hb2 : t * p < 18446744073709551616 := by rw [← hMp]; exact Nat.mul_lt_mul_of_pos_right htM hp0
    have e2 : wrap64 ((t * p : Nat) : Int) = ((t : Int) - M) * p := by
      rw [Int.sub_mul, ← Int.natCast_mul M p, hMp, ← Int.natCast_mul]
      unfold wrap64; omega
    rw [e2, Int.mul_ediv_cancel _ hpz, IntKind.wrap_u64]
    omega
theorem ext_low (a m : Nat) (h1 : 1 ≤ m) (hx : a.testBit (m - 1) = false) : extv a m = a % 2 ^ m := by
  unfold extv
  have := mod_succ a (m - 1)
  rw [show m - 1 + 1 = m by omega, hx] at this
  have hlt := Nat.mod_lt a (Nat.two_pow_pos (m - 1))
  rw [if_pos (by simp at this; omega)]
theorem ext_high (a m : Nat) (h1 : 1 ≤ m) (hx : a.testBit (m - 1) = true) : extv a m = a % 2 ^ m + (18446744073709551616 - 2 ^ m) := by
  unfold extv
  have := mod_succ a (m - 1)
  rw [show m - 1 + 1 = m by omega, hx] at this
  rw [if_neg (by simp at this; omega)]
theorem and_maskn (a m : Nat) (h2 : m ≤ 64) : bits .and .u64 (a : Int) ((2 ^ m - 1 : Nat) : Int) = ((a % 2 ^ m : Nat) : Int) := by
  rw [and_low _ m h2]; simp
theorem or_notmask (y m : Nat) (h2 : m ≤ 64) (hy : y < 2 ^ m) : bits .or .u64 (y : Int) ((18446744073709551615 - (2 ^ m - 1) : Nat) : Int) = ((y + (18446744073709551616 - 2 ^ m) : Nat) : Int) := by
  have hp : 2 ^ m ≤ 2 ^ 64 := Nat.pow_le_pow_right (by decide) h2
  have h0 : 0 < 2 ^ m := Nat.two_pow_pos m
  have e : 18446744073709551615 - (2 ^ m - 1) = 2 ^ m * (2 ^ (64 - m) - 1) := by
    rw [Nat.mul_sub, ← Nat.pow_add, show m + (64 - m) = 64 by omega]; omega
  rw [or_nat _ _ (by omega) (by omega), e, Nat.or_comm, ← Nat.two_pow_add_eq_or_of_lt hy, ← e]
  omega

theorem low_bit (lo i : Nat) (hi : i < 64) : lo * 2 ^ i % 18446744073709551616 / 9223372036854775808 = (lo.testBit (63 - i)).toNat := by
  have e : (9223372036854775808 : Nat) = 2 ^ (63 - i) * 2 ^ i := by rw [← Nat.pow_add, show 63 - i + i = 63 by omega]
  have e2 : (18446744073709551616 : Nat) = 2 * (2 ^ (63 - i) * 2 ^ i) := by rw [← e]
  rw [show lo * 2 ^ i % 18446744073709551616 / 9223372036854775808 = lo * 2 ^ i / 9223372036854775808 % 2 by omega, e, Nat.mul_div_mul_right _ _ (Nat.two_pow_pos i), Nat.testBit_eq_decide_div_mod_eq]
  rcases Nat.mod_two_eq_zero_or_one (lo / 2 ^ (63 - i)) with h | h <;> simp [h]
theorem low_next (lo i : Nat) : 2 * (lo * 2 ^ i % 18446744073709551616) % 18446744073709551616 = lo * 2 ^ (i + 1) % 18446744073709551616 := pow_shl lo i

theorem xor_ones (b : Nat) (hb : b < 18446744073709551616) : 18446744073709551615 ^^^ b = 18446744073709551615 - b := by
  have h : (BitVec.allOnes 64 ^^^ BitVec.ofNat 64 b).toNat = (~~~ (BitVec.ofNat 64 b)).toNat := by
    rw [BitVec.xor_comm, BitVec.xor_allOnes]
  rw [BitVec.toNat_xor, BitVec.toNat_not, BitVec.toNat_allOnes, BitVec.toNat_ofNat, Nat.mod_eq_of_lt (by omega)] at h
  exact h
theorem not_int (z : Nat) (hz : z < 18446744073709551616) : bits .xor .u64 IntKind.u64.max (z : Int) = ((18446744073709551615 - z : Nat) : Int) := by
  rw [show IntKind.u64.max = ((18446744073709551615 : Nat) : Int) by rfl, xor_nat _ _ (by decide) hz, xor_ones z hz]


/-! a root, two bits a step -/
def SqI (x k root rest : Nat) : Prop := root * root + rest = x / 2 ^ (64 - 2 * k) ∧ rest ≤ 2 * root ∧ root < 2 ^ k
theorem SqI.start (x : Nat) (hx : x < 18446744073709551616) : SqI x 0 0 0 := ⟨by rw [Nat.div_eq_of_lt hx], by decide, by decide⟩
theorem div_two (x m : Nat) : x / 2 ^ m = 4 * (x / 2 ^ (m + 2)) + x / 2 ^ m % 4 := by
  rw [Nat.pow_add, ← Nat.div_div_eq_div_mul]; omega
theorem SqI.step {x k root rest : Nat} (h : SqI x k root rest) (hk : k < 32) :
    (4 * root + 1 ≤ 4 * rest + x / 2 ^ (62 - 2 * k) % 4 → SqI x (k + 1) (2 * root + 1) (4 * rest + x / 2 ^ (62 - 2 * k) % 4 - (4 * root + 1))) ∧
    (4 * rest + x / 2 ^ (62 - 2 * k) % 4 < 4 * root + 1 → SqI x (k + 1) (2 * root) (4 * rest + x / 2 ^ (62 - 2 * k) % 4)) := by
  obtain ⟨h1, h2, h3⟩ := h
  have hb := div_two x (62 - 2 * k)
  rw [show 62 - 2 * k + 2 = 64 - 2 * k by omega, ← h1] at hb
  have h4 : x / 2 ^ (62 - 2 * k) % 4 < 4 := Nat.mod_lt _ (by decide)
  unfold SqI
  rw [show 64 - 2 * (k + 1) = 62 - 2 * k by omega, hb, Nat.pow_succ]
  generalize x / 2 ^ (62 - 2 * k) % 4 = d at *
  have e1 : (2 * root + 1) * (2 * root + 1) = 4 * (root * root) + 4 * root + 1 := by grind
  have e2 : 2 * root * (2 * root) = 4 * (root * root) := by grind
  have ed : (4 * (root * root + rest) + d) % 4 = d := by omega
  refine ⟨fun hle => ⟨by rw [e1]; omega, by omega, by omega⟩, fun hlt => ⟨by rw [e2]; omega, by omega, by omega⟩⟩
/-- r is the root of x, s what is left -/
def Root (x r s : Nat) : Prop := r * r + s = x ∧ s ≤ 2 * r
theorem Root.unique {x r s r' s' : Nat} (h : Root x r s) (h' : Root x r' s') : r = r' ∧ s = s' := by
  obtain ⟨h1, h2⟩ := h
  obtain ⟨h3, h4⟩ := h'
  have hr : r = r' := by
    rcases Nat.lt_trichotomy r r' with hlt | heq | hgt
    · have : (r + 1) * (r + 1) ≤ r' * r' := Nat.mul_le_mul hlt hlt
      have e : (r + 1) * (r + 1) = r * r + 2 * r + 1 := by grind
      omega
    · exact heq
    · have : (r' + 1) * (r' + 1) ≤ r * r := Nat.mul_le_mul hgt hgt
      have e : (r' + 1) * (r' + 1) = r' * r' + 2 * r' + 1 := by grind
      omega
  subst hr
  exact ⟨rfl, by omega⟩
theorem SqI.done {x r s : Nat} (h : SqI x 32 r s) : Root x r s ∧ r < 4294967296 := by
  obtain ⟨h1, h2, h3⟩ := h
  exact ⟨⟨by simpa using h1, h2⟩, h3⟩
theorem SqI.bounds {x k root rest : Nat} (h : SqI x k root rest) (hk : k ≤ 32) : root < 4294967296 ∧ rest < 8589934592 := by
  have := Nat.pow_le_pow_right (show 2 > 0 by decide) hk
  obtain ⟨h1, h2, h3⟩ := h
  omega
theorem or_two (r d : Nat) (hr : r < 8589934592) (hd : d < 4) : bits .or .u64 ((r : Int) * 4) (d : Int) = ((4 * r + d : Nat) : Int) := by
  have e1 : (r : Int) * 4 = ((2 ^ 2 * r : Nat) : Int) := by omega
  rw [e1, or_nat _ _ (by omega) (by omega), ← Nat.two_pow_add_eq_or_of_lt (by omega)]
theorem or_four1 (r : Nat) (hr : r < 4294967296) : bits .or .u64 ((r : Int) * 4) 1 = ((4 * r + 1 : Nat) : Int) := or_two r 1 (by omega) (by decide)
theorem or_two1 (r : Nat) (hr : r < 4294967296) : bits .or .u64 ((r : Int) * 2) 1 = ((2 * r + 1 : Nat) : Int) := by
  have e1 : (r : Int) * 2 = ((2 ^ 1 * r : Nat) : Int) := by omega
  rw [e1, show (1 : Int) = ((1 : Nat) : Int) by rfl, or_nat _ _ (by omega) (by omega), ← Nat.two_pow_add_eq_or_of_lt (by omega)]
theorem and_three (x m : Nat) : bits .and .u64 ((x : Int) / 2 ^ m) 3 = ((x / 2 ^ m % 4 : Nat) : Int) := by
  have e : ((x : Int) / 2 ^ m) = ((x / 2 ^ m : Nat) : Int) := by simp
  have h1 := and_low ((x / 2 ^ m : Nat) : Int) 2 (by decide)
  rw [e, show ((3 : Int)) = ((2 ^ 2 - 1 : Nat) : Int) by rfl, h1]
  simp

theorem SqI.ex (x : Nat) (hx : x < 18446744073709551616) : ∀ k, k ≤ 32 → ∃ r s, SqI x k r s
  | 0, _ => ⟨0, 0, SqI.start x hx⟩
  | k + 1, h => by
    obtain ⟨r, s, hI⟩ := SqI.ex x hx k (by omega)
    obtain ⟨h1, h2⟩ := hI.step (by omega)
    by_cases hge : 4 * r + 1 ≤ 4 * s + x / 2 ^ (62 - 2 * k) % 4
    · exact ⟨_, _, h1 hge⟩
    · exact ⟨_, _, h2 (by omega)⟩
/-- the root of x -/
noncomputable def isqrt (x : Nat) : Nat := Classical.epsilon (fun r => Root x r (x - r * r))
theorem isqrt_of {x r s : Nat} (h : Root x r s) : r = isqrt x ∧ s = x - isqrt x * isqrt x := by
  have hs : s = x - r * r := by have := h.1; omega
  have h' : Root x r (x - r * r) := by rw [← hs]; exact h
  have h2 : Root x (isqrt x) (x - isqrt x * isqrt x) := Classical.epsilon_spec (p := fun r => Root x r (x - r * r)) ⟨r, h'⟩
  have e := (Root.unique h h2).1
  exact ⟨e, by rw [← e]; exact hs⟩
theorem isqrt_root (x : Nat) (hx : x < 18446744073709551616) : Root x (isqrt x) (x - isqrt x * isqrt x) ∧ isqrt x < 4294967296 := by
  obtain ⟨r, s, hI⟩ := SqI.ex x hx 32 (by omega)
  obtain ⟨h1, h2⟩ := hI.done
  obtain ⟨e1, e2⟩ := isqrt_of h1
  rw [← e2, ← e1]
  exact ⟨h1, h2⟩
theorem and_i64 (x : Int) (k : Nat) (hk : k ≤ 62) : bits .and .i64 x (((2 ^ k - 1 : Nat)) : Int) = x % 2 ^ k := by
  have h := and_low x k (by omega)
  have hp : 2 ^ k ≤ 2 ^ 62 := Nat.pow_le_pow_right (by decide) hk
  have hp0 := Nat.two_pow_pos k
  unfold bits at h ⊢
  simp only at h ⊢
  generalize hN : (BitVec.ofInt IntKind.u64.bits x &&& BitVec.ofInt IntKind.u64.bits ((2 ^ k - 1 : Nat) : Int)).toNat = N at h
  have hN' : (BitVec.ofInt IntKind.i64.bits x &&& BitVec.ofInt IntKind.i64.bits ((2 ^ k - 1 : Nat) : Int)).toNat = N := hN
  rw [hN']
  have hlt : N < 2 ^ 64 := by rw [← hN]; exact BitVec.isLt _
  rw [wrap_lt N hlt] at h
  have e : ((2 : Int) ^ k) = ((2 ^ k : Nat) : Int) := by simp
  rw [e] at h ⊢
  rw [← h]
  have hb : (N : Int) < 2 ^ k := by rw [h, e]; exact Int.emod_lt_of_pos _ (by omega)
  rw [e] at hb
  have e3 : IntKind.i64.wrap (N : Int) = (N : Int) := by
    simp [IntKind.wrap, IntKind.bits, IntKind.signed]
    omega
  exact e3

/-! the length -/
def LenOf (x m : Nat) : Prop := x < 2 ^ m ∧ (m ≠ 0 → 2 ^ m ≤ 2 * x)
theorem LenOf.le {x m n : Nat} (h : LenOf x m) (h' : LenOf x n) : m ≤ n := by
  rcases Nat.lt_or_ge n m with hlt | hge
  · have h1 := h.2 (by omega)
    have h2 := h'.1
    have h3 : 2 ^ (n + 1) ≤ 2 ^ m := Nat.pow_le_pow_right (by decide) hlt
    rw [Nat.pow_succ] at h3
    omega
  · exact hge
theorem LenOf.unique {x m n : Nat} (h : LenOf x m) (h' : LenOf x n) : m = n := Nat.le_antisymm (h.le h') (h'.le h)
theorem bl_spec : ∀ (n x : Nat), n ≤ 64 → x < 2 ^ n → LenOf x (Lib.bitLen x) ∧ Lib.bitLen x ≤ n
  | 0, x, _, hx => by
    obtain rfl : x = 0 := by simpa using hx
    exact ⟨⟨by decide, by simp [show Lib.bitLen 0 = 0 from rfl]⟩, by decide⟩
  | n + 1, x, hn, hx => by
    by_cases h0 : x = 0
    · subst h0; exact ⟨⟨by decide, by simp [show Lib.bitLen 0 = 0 from rfl]⟩, by simp [show Lib.bitLen 0 = 0 from rfl]⟩
    · have hh : x < 2 ^ 64 := Nat.lt_of_lt_of_le hx (Nat.pow_le_pow_right (by decide) hn)
      rw [Nat.pow_succ] at hx
      obtain ⟨⟨i1, i2⟩, i3⟩ := bl_spec n (x / 2) (by omega) (by omega)
      rw [Lib.bitLen_half x h0 hh, Nat.add_comm 1]
      refine ⟨⟨?_, fun _ => ?_⟩, by omega⟩
      · rw [Nat.pow_succ]; omega
      · rw [Nat.pow_succ]
        by_cases h1 : Lib.bitLen (x / 2) = 0
        · rw [h1]; omega
        · have := i2 h1; omega
theorem LenOf.zero : LenOf 0 0 := ⟨by decide, by simp⟩
/-- bit k set: the lowest k + 1 bits have length k + 1 -/
theorem LenOf.next {a k n : Nat} (h : LenOf (a % 2 ^ k) n) : LenOf (a % 2 ^ (k + 1)) (if a.testBit k then k + 1 else n) := by
  have hm := mod_succ a k
  cases hx : a.testBit k
  · rw [hx] at hm
    simpa [hm] using h
  · rw [hx] at hm
    have := Nat.mod_lt a (Nat.two_pow_pos k)
    simp only [Bool.toNat_true, Nat.one_mul] at hm
    simp only [if_true, hm]
    exact ⟨by rw [Nat.pow_succ]; omega, fun _ => by rw [Nat.pow_succ]; omega⟩
theorem and_fifteen (x m : Nat) : bits .and .u64 ((x : Int) / 2 ^ m) 15 = ((x / 2 ^ m % 16 : Nat) : Int) := by
  have := and_low ((x : Int) / 2 ^ m) 4 (by decide)
  rw [show ((2 ^ 4 - 1 : Nat) : Int) = 15 from rfl] at this
  rw [this]
  simp
end Go.Proofs.Yteelconabmfnkaa
