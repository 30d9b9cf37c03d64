/- Numbers by their words of 64 bits: plain mathematics. -/
import Derived.Test.YteelconabmfnkaaM
import Derived.Lib.BitFns
import Derived.Lib.ItoaNum
namespace Go.Proofs.Yteelconabmfnkaa
open Go.RowKit
set_option linter.unusedVariables false

def Bk (k : Nat) : Nat := 2 ^ (64 * k)
/-- word i of a number -/
def limb (A i : Nat) : Nat := A / Bk i % 18446744073709551616
theorem limb_lt (A i : Nat) : limb A i < 18446744073709551616 := Nat.mod_lt _ (by decide)
theorem B_eq : (18446744073709551616 : Nat) = 2 ^ 64 := by decide
theorem pow_pos64 (k : Nat) : 0 < Bk k := Nat.two_pow_pos _
theorem Bk_zero : Bk 0 = 1 := rfl
theorem Bk_add (i k : Nat) : Bk (i + k) = Bk i * Bk k := by
  unfold Bk
  rw [Nat.mul_add, Nat.pow_add]
theorem pow_succ64 (k : Nat) : Bk (k + 1) = 18446744073709551616 * Bk k := by
  rw [Bk_add, Nat.mul_comm]; rfl
theorem Bk_le {i k : Nat} (h : i ≤ k) : Bk i ≤ Bk k := Nat.pow_le_pow_right (by decide) (Nat.mul_le_mul_left 64 h)
theorem pow_split64 {i k : Nat} (h : i ≤ k) : Bk k = Bk i * Bk (k - i) := by
  rw [← Bk_add, Nat.add_sub_cancel' h]
theorem limb_big {A i k : Nat} (h : A < Bk k) (hk : k ≤ i) : limb A i = 0 := by
  unfold limb
  rw [Nat.div_eq_of_lt (Nat.lt_of_lt_of_le h (Bk_le hk))]
theorem limb_zero (i : Nat) : limb 0 i = 0 := by unfold limb; rw [Nat.zero_div]
/-- what one more word makes -/
theorem mod_limb (A k : Nat) : A % Bk (k + 1) = A % Bk k + limb A k * Bk k := by
  unfold limb
  rw [pow_succ64, Nat.mul_comm 18446744073709551616, Nat.mod_mul, Nat.mul_comm (Bk k)]
theorem limb_top {S k x : Nat} (hS : S < Bk k) (hx : x < 18446744073709551616) (i : Nat) : limb (S + x * Bk k) i = if i = k then x else limb S i := by
  unfold limb
  by_cases h : i = k
  · subst h
    rw [if_pos rfl, Nat.add_mul_div_right _ _ (pow_pos64 i), Nat.div_eq_of_lt hS, Nat.zero_add, Nat.mod_eq_of_lt hx]
  · rw [if_neg h]
    rcases Nat.lt_or_ge i k with hlt | hge
    · rw [pow_split64 (Nat.le_of_lt hlt), Nat.mul_left_comm, Nat.add_mul_div_left _ _ (pow_pos64 i)]
      obtain ⟨d, hd⟩ : ∃ d, k - i = d + 1 := ⟨k - i - 1, by omega⟩
      rw [hd, pow_succ64, Nat.mul_left_comm, Nat.add_mul_mod_self_left]
    · have h1 : S + x * Bk k < Bk i := by
        have e : Bk (k + 1) ≤ Bk i := Bk_le (by omega)
        rw [pow_succ64] at e
        have : (x + 1) * Bk k ≤ 18446744073709551616 * Bk k := Nat.mul_le_mul_right _ hx
        rw [Nat.add_mul, Nat.one_mul] at this
        omega
      have h2 : S < Bk i := by
        have : 0 ≤ x * Bk k := Nat.zero_le _
        omega
      rw [Nat.div_eq_of_lt h1, Nat.div_eq_of_lt h2]
/-- a number is its words -/
theorem limb_ext {A B n : Nat} (hA : A < Bk n) (hB : B < Bk n) (h : ∀ i, i < n → limb A i = limb B i) : A = B := by
  have key : ∀ k, k ≤ n → A % Bk k = B % Bk k := by
    intro k
    induction k with
    | zero => intro _; rw [Bk_zero, Nat.mod_one, Nat.mod_one]
    | succ k ih => intro hk; rw [mod_limb, mod_limb, ih (by omega), h k (by omega)]
  have := key n (Nat.le_refl _)
  rwa [Nat.mod_eq_of_lt hA, Nat.mod_eq_of_lt hB] at this
theorem limb_mod (A n i : Nat) (hi : i < n) : limb (A % Bk n) i = limb A i := by
  unfold limb
  rw [pow_split64 (Nat.le_of_lt hi), Nat.mod_mul_right_div_self]
  obtain ⟨d, hd⟩ : ∃ d, n - i = d + 1 := ⟨n - i - 1, by omega⟩
  rw [hd, pow_succ64]
  exact Nat.mod_mul_right_mod _ _ _
/-- any words make a number -/
def numOf (f : Nat → Nat) : Nat → Nat
  | 0 => 0
  | k + 1 => numOf f k + f k * Bk k
theorem numOf_lt {f : Nat → Nat} (hf : ∀ i, f i < 18446744073709551616) : ∀ k, numOf f k < Bk k
  | 0 => Nat.one_pos
  | k + 1 => by
    have ih := numOf_lt hf k
    have : (f k + 1) * Bk k ≤ 18446744073709551616 * Bk k := Nat.mul_le_mul_right _ (hf k)
    rw [pow_succ64, numOf]
    rw [Nat.add_mul, Nat.one_mul] at this
    omega
theorem limb_numOf {f : Nat → Nat} (hf : ∀ i, f i < 18446744073709551616) : ∀ k i, i < k → limb (numOf f k) i = f i
  | 0, i, h => by omega
  | k + 1, i, h => by
    rw [numOf, limb_top (numOf_lt hf k) (hf k)]
    by_cases hik : i = k
    · rw [if_pos hik, hik]
    · rw [if_neg hik, limb_numOf hf k i (by omega)]

/-! sums, word by word -/
def SumW (A B k S : Nat) (c : Bool) : Prop := S < Bk k ∧ S + c.toNat * Bk k = A % Bk k + B % Bk k
theorem SumW.start (A B : Nat) : SumW A B 0 0 false := ⟨by decide, by simp [Nat.mod_one, Bk_zero]⟩
theorem SumW.step {A B k S : Nat} {c : Bool} (h : SumW A B k S c) : SumW A B (k + 1) (S + addv (limb A k) (limb B k) c * Bk k) (addc (limb A k) (limb B k) c) := by
  obtain ⟨h1, h2⟩ := h
  have hv := addv_lt (limb A k) (limb B k) c
  have hs : addv (limb A k) (limb B k) c + (addc (limb A k) (limb B k) c).toNat * 18446744073709551616 = limb A k + limb B k + c.toNat := by
    have ha := limb_lt A k
    have hb := limb_lt B k
    have hc := Bool.toNat_le c
    unfold addv addc
    by_cases hd : 18446744073709551616 ≤ limb A k + limb B k + c.toNat
    · rw [decide_eq_true hd]; simp only [Bool.toNat_true]; omega
    · rw [decide_eq_false hd]; simp only [Bool.toNat_false]; omega
  generalize addv (limb A k) (limb B k) c = v at *
  generalize addc (limb A k) (limb B k) c = d at *
  refine ⟨?_, ?_⟩
  · have : (v + 1) * Bk k ≤ 18446744073709551616 * Bk k := Nat.mul_le_mul_right _ hv
    rw [Nat.add_mul, Nat.one_mul] at this
    rw [pow_succ64]; omega
  · rw [mod_limb, mod_limb, pow_succ64]
    generalize Bk k = p at *
    have e : (v + d.toNat * 18446744073709551616) * p = (limb A k + limb B k + c.toNat) * p := by rw [hs]
    rw [Nat.add_mul, Nat.add_mul, Nat.add_mul, Nat.mul_assoc] at e
    omega
def DifW (A B k S : Nat) (c : Bool) : Prop := S < Bk k ∧ S + B % Bk k = A % Bk k + c.toNat * Bk k
theorem DifW.start (A B : Nat) : DifW A B 0 0 false := ⟨by decide, by simp [Nat.mod_one, Bk_zero]⟩
theorem DifW.step {A B k S : Nat} {c : Bool} (h : DifW A B k S c) : DifW A B (k + 1) (S + subv (limb A k) (limb B k) c * Bk k) (subc (limb A k) (limb B k) c) := by
  obtain ⟨h1, h2⟩ := h
  have hv := subv_lt (limb A k) (limb B k) c
  have hs : subv (limb A k) (limb B k) c + limb B k + c.toNat = limb A k + (subc (limb A k) (limb B k) c).toNat * 18446744073709551616 := by
    have ha := limb_lt A k
    have hb := limb_lt B k
    have hc := Bool.toNat_le c
    unfold subv subc
    by_cases hd : limb A k < limb B k + c.toNat
    · rw [decide_eq_true hd]; simp only [Bool.toNat_true]; omega
    · rw [decide_eq_false hd]; simp only [Bool.toNat_false]; omega
  generalize subv (limb A k) (limb B k) c = v at *
  generalize subc (limb A k) (limb B k) c = d at *
  refine ⟨?_, ?_⟩
  · have : (v + 1) * Bk k ≤ 18446744073709551616 * Bk k := Nat.mul_le_mul_right _ hv
    rw [Nat.add_mul, Nat.one_mul] at this
    rw [pow_succ64]; omega
  · rw [mod_limb, mod_limb, pow_succ64]
    generalize Bk k = p at *
    have e : (v + limb B k + c.toNat) * p = (limb A k + d.toNat * 18446744073709551616) * p := by rw [hs]
    rw [Nat.add_mul, Nat.add_mul, Nat.add_mul, Nat.mul_assoc] at e
    omega

/-! a number of 384 bits -/
def W384 : Nat := Bk 6
theorem W384_pos : 0 < W384 := pow_pos64 6
theorem SumW.doneN {n A B S : Nat} {c : Bool} (h : SumW A B n S c) (hA : A < Bk n) (hB : B < Bk n) : S = (A + B) % Bk n ∧ c = decide (Bk n ≤ A + B) := by
  obtain ⟨h1, h2⟩ := h
  rw [Nat.mod_eq_of_lt hA, Nat.mod_eq_of_lt hB] at h2
  generalize Bk n = p at *
  cases c
  · simp only [Bool.toNat_false, Nat.zero_mul, Nat.add_zero] at h2
    refine ⟨by rw [← h2, Nat.mod_eq_of_lt h1], ?_⟩
    symm; rw [decide_eq_false_iff_not]; omega
  · simp only [Bool.toNat_true, Nat.one_mul] at h2
    refine ⟨by rw [← h2, Nat.add_mod_right, Nat.mod_eq_of_lt h1], ?_⟩
    symm; rw [decide_eq_true_eq]; omega
theorem DifW.doneN {n A B S : Nat} {c : Bool} (h : DifW A B n S c) (hA : A < Bk n) (hB : B < Bk n) : S = (Bk n - B + A) % Bk n ∧ c = decide (A < B) := by
  obtain ⟨h1, h2⟩ := h
  rw [Nat.mod_eq_of_lt hA, Nat.mod_eq_of_lt hB] at h2
  generalize Bk n = p at *
  cases c
  · simp only [Bool.toNat_false, Nat.zero_mul, Nat.add_zero] at h2
    refine ⟨by rw [show p - B + A = S + p by omega, Nat.add_mod_right, Nat.mod_eq_of_lt h1], ?_⟩
    symm; rw [decide_eq_false_iff_not]; omega
  · simp only [Bool.toNat_true, Nat.one_mul] at h2
    refine ⟨by rw [show p - B + A = S by omega, Nat.mod_eq_of_lt h1], ?_⟩
    symm; rw [decide_eq_true_eq]; omega
/-- sum, difference, product of two numbers of 384 bits -/
def addW (A B : Nat) : Nat := (A + B) % W384
def subW (A B : Nat) : Nat := (W384 - B + A) % W384
def mulW (A B : Nat) : Nat := A * B % W384
theorem addW_lt (A B : Nat) : addW A B < W384 := Nat.mod_lt _ W384_pos
theorem subW_lt (A B : Nat) : subW A B < W384 := Nat.mod_lt _ W384_pos
theorem mulW_lt (A B : Nat) : mulW A B < W384 := Nat.mod_lt _ W384_pos
theorem SumW.done {A B S : Nat} {c : Bool} (h : SumW A B 6 S c) (hA : A < W384) (hB : B < W384) : S = addW A B ∧ c = decide (W384 ≤ A + B) := SumW.doneN h hA hB
theorem DifW.done {A B S : Nat} {c : Bool} (h : DifW A B 6 S c) (hA : A < W384) (hB : B < W384) : S = subW A B ∧ c = decide (A < B) := DifW.doneN h hA hB

/-! a product, word by word -/
/-- within row i, k words done: T is what the words are, c the carry -/
def MulW (A B i k T c : Nat) : Prop := c < 18446744073709551616 ∧ T < Bk (i + 6) ∧ T + c * Bk (i + k) = A % Bk i * B + limb A i * (B % Bk k) * Bk i
theorem muladd (x y t c : Nat) (hx : x < 18446744073709551616) (hy : y < 18446744073709551616) (ht : t < 18446744073709551616) (hc : c < 18446744073709551616) :
    addv (addv (mull x y) t false) c false = (x * y + t + c) % 18446744073709551616 ∧
    addv (addv (mulh x y) 0 (addc (mull x y) t false)) 0 (addc (addv (mull x y) t false) c false) = (x * y + t + c) / 18446744073709551616 := by
  have hp : x * y ≤ 18446744073709551615 * 18446744073709551615 := Nat.mul_le_mul (by omega) (by omega)
  unfold mull mulh addv addc
  generalize x * y = p at *
  simp only [Bool.toNat_false, Nat.add_zero]
  by_cases h1 : 18446744073709551616 ≤ p % 18446744073709551616 + t
  · rw [decide_eq_true h1]
    by_cases h2 : 18446744073709551616 ≤ (p % 18446744073709551616 + t) % 18446744073709551616 + c
    · rw [decide_eq_true h2]; simp only [Bool.toNat_true]; omega
    · rw [decide_eq_false h2]; simp only [Bool.toNat_true, Bool.toNat_false]; omega
  · rw [decide_eq_false h1]
    by_cases h2 : 18446744073709551616 ≤ (p % 18446744073709551616 + t) % 18446744073709551616 + c
    · rw [decide_eq_true h2]; simp only [Bool.toNat_true, Bool.toNat_false]; omega
    · rw [decide_eq_false h2]; simp only [Bool.toNat_false]; omega
/-- word k of T is x instead -/
def setw (T k x : Nat) : Nat := T - limb T k * Bk k + x * Bk k
theorem limb_le (T k : Nat) : limb T k * Bk k ≤ T := by
  have := mod_limb T k
  have h2 := Nat.mod_le T (Bk (k + 1))
  omega
theorem split3 (T k : Nat) : T = T % Bk k + limb T k * Bk k + T / Bk (k + 1) * Bk (k + 1) := by
  rw [← mod_limb, Nat.mul_comm (T / _)]
  exact (Nat.mod_add_div T _).symm
theorem limb_setw (T k x i : Nat) (hx : x < 18446744073709551616) : limb (setw T k x) i = if i = k then x else limb T i := by
  have hs := split3 T k
  have hlow := Nat.mod_lt T (pow_pos64 k)
  have e : setw T k x = T % Bk k + x * Bk k + T / Bk (k + 1) * Bk (k + 1) := by
    unfold setw
    have := limb_le T k
    omega
  have hb : ∀ y, y < 18446744073709551616 → T % Bk k + y * Bk k < Bk (k + 1) := fun y hy => by
    have : (y + 1) * Bk k ≤ 18446744073709551616 * Bk k := Nat.mul_le_mul_right _ hy
    rw [Nat.add_mul, Nat.one_mul] at this
    rw [pow_succ64]; omega
  rcases Nat.lt_or_ge i (k + 1) with hik | hik
  · have h1 : limb (setw T k x) i = limb (T % Bk k + x * Bk k) i := by
      rw [← limb_mod (setw T k x) (k + 1) i hik, e, Nat.add_mul_mod_self_right, Nat.mod_eq_of_lt (hb x hx)]
    have h2 : limb T i = limb (T % Bk k + limb T k * Bk k) i := by
      rw [← limb_mod T (k + 1) i hik, mod_limb]
    rw [h1, limb_top hlow hx]
    by_cases hk : i = k
    · rw [if_pos hk, if_pos hk]
    · rw [if_neg hk, if_neg hk, h2, limb_top hlow (limb_lt T k), if_neg hk]
  · rw [if_neg (by omega)]
    have hd : setw T k x / Bk (k + 1) = T / Bk (k + 1) := by
      rw [e, Nat.add_mul_div_right _ _ (pow_pos64 _), Nat.div_eq_of_lt (hb x hx), Nat.zero_add]
    unfold limb
    rw [pow_split64 hik, ← Nat.div_div_eq_div_mul, ← Nat.div_div_eq_div_mul, hd]
theorem MulW.start {A B : Nat} (i : Nat) (hB : B < Bk 6) : MulW A B i 0 (A % Bk i * B) 0 := by
  refine ⟨by decide, ?_, by simp [Nat.mod_one, Bk_zero]⟩
  rw [Bk_add]
  exact Nat.mul_lt_mul_of_lt_of_lt (Nat.mod_lt _ (pow_pos64 i)) hB
theorem MulW.step {A B i k T c : Nat} (h : MulW A B i k T c) (hk : k < 6) :
    MulW A B i (k + 1) (setw T (i + k) ((limb A i * limb B k + limb T (i + k) + c) % 18446744073709551616)) ((limb A i * limb B k + limb T (i + k) + c) / 18446744073709551616) := by
  obtain ⟨h1, h2, h3⟩ := h
  have hx := limb_lt A i
  have hy := limb_lt B k
  have ht := limb_lt T (i + k)
  have hp : limb A i * limb B k ≤ 18446744073709551615 * 18446744073709551615 := Nat.mul_le_mul (by omega) (by omega)
  have hle := limb_le T (i + k)
  have hm : (limb A i * limb B k + limb T (i + k) + c) % 18446744073709551616 < 18446744073709551616 := Nat.mod_lt _ (by decide)
  refine ⟨by omega, ?_, ?_⟩
  · -- words from i + 6 on stay 0
    have hz : setw T (i + k) ((limb A i * limb B k + limb T (i + k) + c) % 18446744073709551616) / Bk (i + 6) = 0 := by
      have e := split3 T (i + k)
      have hs : setw T (i + k) ((limb A i * limb B k + limb T (i + k) + c) % 18446744073709551616) / Bk (i + k + 1) = T / Bk (i + k + 1) := by
        unfold setw
        have hlow := Nat.mod_lt T (pow_pos64 (i + k))
        generalize (limb A i * limb B k + limb T (i + k) + c) % 18446744073709551616 = y at *
        have hb : T % Bk (i + k) + y * Bk (i + k) < Bk (i + k + 1) := by
          have : (y + 1) * Bk (i + k) ≤ 18446744073709551616 * Bk (i + k) := Nat.mul_le_mul_right _ hm
          rw [Nat.add_mul, Nat.one_mul] at this
          rw [pow_succ64]; omega
        rw [show T - limb T (i + k) * Bk (i + k) + y * Bk (i + k) = T % Bk (i + k) + y * Bk (i + k) + T / Bk (i + k + 1) * Bk (i + k + 1) by omega]
        rw [Nat.add_mul_div_right _ _ (pow_pos64 _), Nat.div_eq_of_lt hb, Nat.zero_add]
      rw [pow_split64 (show i + k + 1 ≤ i + 6 by omega), ← Nat.div_div_eq_div_mul, hs, Nat.div_div_eq_div_mul, ← pow_split64 (show i + k + 1 ≤ i + 6 by omega)]
      exact Nat.div_eq_of_lt h2
    exact (Nat.div_eq_zero_iff.1 hz).resolve_left (by have := pow_pos64 (i + 6); omega)
  · rw [mod_limb B k, Nat.mul_add (limb A i), Nat.add_mul]
    unfold setw
    have e1 : limb A i * (limb B k * Bk k) * Bk i = limb A i * limb B k * Bk (i + k) := by
      rw [Bk_add, Nat.mul_comm (Bk i), ← Nat.mul_assoc, ← Nat.mul_assoc]
    rw [e1, ← Nat.add_assoc (A % Bk i * B), ← h3]
    rw [show i + (k + 1) = i + k + 1 by omega, pow_succ64]
    generalize hq : limb A i * limb B k = q at *
    generalize Bk (i + k) = p at *
    generalize limb T (i + k) = t at *
    have e2 : ((q + t + c) % 18446744073709551616 + (q + t + c) / 18446744073709551616 * 18446744073709551616) * p = (q + t + c) * p := by
      rw [Nat.mul_comm ((q + t + c) / 18446744073709551616), Nat.mod_add_div]
    rw [Nat.add_mul, Nat.add_mul, Nat.add_mul, Nat.mul_assoc] at e2
    omega
theorem MulW.row {A B i T c n : Nat} (h : MulW A B i n T c) (hn : n = 6) (hB : B < Bk n) : setw T (i + 6) c = A % Bk (i + 1) * B := by
  obtain ⟨h1, h2, h3⟩ := h
  have e : limb T (i + n) = 0 := by rw [hn]; exact limb_big h2 (Nat.le_refl _)
  rw [← hn]
  unfold setw
  rw [e, Nat.zero_mul, Nat.sub_zero, h3, mod_limb A i, Nat.add_mul, Nat.mod_eq_of_lt hB]
  rw [Nat.mul_right_comm]
/-! the other way round -/
def notW (A : Nat) : Nat := W384 - (1 + A)
theorem notW_lt (A : Nat) : notW A < W384 := by have := W384_pos; unfold notW; omega
def notl (A i : Nat) : Nat := 18446744073709551615 - limb A i
theorem notl_lt (A i : Nat) : notl A i < 18446744073709551616 := by unfold notl; omega
theorem numOf_not (A : Nat) : ∀ k, numOf (notl A) k + A % Bk k + 1 = Bk k
  | 0 => by simp [numOf, Bk_zero, Nat.mod_one]
  | k + 1 => by
    have ih := numOf_not A k
    rw [numOf, mod_limb, pow_succ64]
    have hl := limb_lt A k
    have e : (notl A k + limb A k) * Bk k = 18446744073709551615 * Bk k := by
      congr 1
      unfold notl
      omega
    rw [Nat.add_mul] at e
    omega
theorem limb_not {A : Nat} (hA : A < W384) (i : Nat) (hi : i < 6) : limb (notW A) i = notl A i := by
  have h := numOf_not A 6
  have e : A % Bk 6 = A := Nat.mod_eq_of_lt hA
  have e2 : numOf (notl A) 6 = notW A := by
    unfold notW W384
    rw [e] at h
    omega
  rw [← e2]
  exact limb_numOf (notl_lt A) 6 i hi
/-! the length -/
/-- bits of the lowest k words -/
def lenN (A : Nat) : Nat → Nat
  | 0 => 0
  | k + 1 => if limb A k = 0 then lenN A k else 64 * k + Lib.bitLen (limb A k)
def lenW (A : Nat) : Nat := lenN A 6
theorem Bk_two (k : Nat) : Bk k = 2 ^ (64 * k) := by
  unfold Bk
  try rw [Nat.pow_mul]
theorem lenN_spec (A : Nat) : ∀ k, LenOf (A % Bk k) (lenN A k) ∧ lenN A k ≤ 64 * k
  | 0 => ⟨⟨by simp [lenN, Bk_zero, Nat.mod_one], by simp [lenN]⟩, by simp [lenN]⟩
  | k + 1 => by
    obtain ⟨⟨i1, i2⟩, i3⟩ := lenN_spec A k
    rw [mod_limb, lenN]
    by_cases h0 : limb A k = 0
    · rw [if_pos h0, h0, Nat.zero_mul, Nat.add_zero]
      exact ⟨⟨i1, i2⟩, by omega⟩
    · rw [if_neg h0]
      have hr := Nat.mod_lt A (pow_pos64 k)
      obtain ⟨⟨l1, l2⟩, l3⟩ := bl_spec 64 (limb A k) (Nat.le_refl _) (limb_lt A k)
      generalize limb A k = x at *
      generalize Lib.bitLen x = l at *
      have hl : l ≠ 0 := fun h => by rw [h] at l1; omega
      replace l2 := l2 hl
      have e : 2 ^ (64 * k + l) = Bk k * 2 ^ l := by rw [Nat.pow_add, ← Bk_two]
      unfold LenOf
      rw [e]
      generalize Bk k = p at *
      generalize A % p = r at *
      refine ⟨⟨?_, fun _ => ?_⟩, by omega⟩
      · have : (x + 1) * p ≤ 2 ^ l * p := Nat.mul_le_mul_right _ l1
        rw [Nat.add_mul, Nat.one_mul, Nat.mul_comm (2 ^ l)] at this
        omega
      · have : 2 ^ l * p ≤ 2 * x * p := Nat.mul_le_mul_right _ l2
        rw [Nat.mul_comm (2 ^ l), Nat.mul_assoc] at this
        omega
theorem lenW_spec {A : Nat} (hA : A < W384) : LenOf A (lenW A) ∧ lenW A ≤ 384 := by
  have := lenN_spec A 6
  rwa [show A % Bk 6 = A from Nat.mod_eq_of_lt hA] at this
/-! what lies above -/
theorem over_start (T k : Nat) (hk : k ≤ 6) : false = decide (W384 ≤ T % Bk k) := by
  symm
  rw [decide_eq_false_iff_not]
  have h1 := Nat.mod_lt T (pow_pos64 k)
  have h2 : Bk k ≤ W384 := Bk_le hk
  omega
theorem over_step (T k : Nat) (hk : 6 ≤ k) : decide (W384 ≤ T % Bk (k + 1)) = (decide (W384 ≤ T % Bk k) || decide (limb T k ≠ 0)) := by
  rw [mod_limb]
  have h2 : W384 ≤ Bk k := Bk_le hk
  by_cases h0 : limb T k = 0
  · rw [h0, Nat.zero_mul, Nat.add_zero]; simp
  · have : 1 * Bk k ≤ limb T k * Bk k := Nat.mul_le_mul_right _ (by omega)
    rw [decide_eq_true (show W384 ≤ T % Bk k + limb T k * Bk k by omega), decide_eq_true h0, Bool.or_true]
theorem mul_lt12 {A B : Nat} (hA : A < W384) (hB : B < W384) : A * B < Bk 12 := by
  rw [show (12 : Nat) = 6 + 6 from rfl, Bk_add]
  exact Nat.mul_lt_mul_of_lt_of_lt hA hB
/-! texts of 16 digits -/
def nib (A k : Nat) : Nat := limb A (k / 16) / 2 ^ (4 * (k % 16)) % 16
theorem nib_lt (A k : Nat) : nib A k < 16 := Nat.mod_lt _ (by decide)
def digb (d : Nat) : Nat := if d < 10 then 48 + d else 87 + d
theorem digb_lt {d : Nat} (h : d < 16) : digb d < 256 := by unfold digb; split <;> omega
def txtN (A : Nat) : Nat := max 1 ((lenW A + 3) / 4)
theorem txtN_le {A : Nat} (hA : A < W384) : 1 ≤ txtN A ∧ txtN A ≤ 96 := by
  have := (lenW_spec hA).2
  unfold txtN
  omega
def textL (A n : Nat) : List UInt8 := (List.range n).map fun i => UInt8.ofNat (digb (nib A (n - (1 + i))))
/-! a ring -/
theorem addW_comm (a b : Nat) : addW a b = addW b a := by unfold addW; rw [Nat.add_comm]
theorem addW_assoc (a b c : Nat) : addW (addW a b) c = addW a (addW b c) := by
  unfold addW; rw [Nat.mod_add_mod, Nat.add_mod_mod, Nat.add_assoc]
theorem mulW_comm (a b : Nat) : mulW a b = mulW b a := by unfold mulW; rw [Nat.mul_comm]
theorem mulW_assoc (a b c : Nat) : mulW (mulW a b) c = mulW a (mulW b c) := by
  unfold mulW; rw [Nat.mod_mul_mod, Nat.mul_mod_mod, Nat.mul_assoc]
theorem mulW_addW (a b c : Nat) : mulW a (addW b c) = addW (mulW a b) (mulW a c) := by
  unfold mulW addW; rw [Nat.mul_mod_mod, Nat.mod_add_mod, Nat.add_mod_mod, Nat.mul_add]
theorem subW_addW {a b : Nat} (ha : a < W384) (hb : b < W384) : subW (addW a b) b = a := by
  unfold subW addW
  rw [Nat.add_mod_mod, show W384 - b + (a + b) = a + W384 by omega, Nat.add_mod_right, Nat.mod_eq_of_lt ha]
/-! a word is added at a place, with its carries -/
def IntoW (G i S : Nat) (c : Bool) : Prop := S < Bk 13 ∧ S + c.toNat * Bk i = G
theorem setw_lt {T k x n : Nat} (hT : T < Bk n) (hk : k < n) (hx : x < 18446744073709551616) : setw T k x < Bk n := by
  have h := numOf_lt (f := limb (setw T k x)) (fun i => limb_lt _ i) n
  have e : setw T k x / Bk n = 0 := by
    have hs := split3 T k
    have hlow := Nat.mod_lt T (pow_pos64 k)
    have hle := limb_le T k
    have hb : T % Bk k + x * Bk k < Bk (k + 1) := by
      have : (x + 1) * Bk k ≤ 18446744073709551616 * Bk k := Nat.mul_le_mul_right _ hx
      rw [Nat.add_mul, Nat.one_mul] at this
      rw [pow_succ64]; omega
    have e2 : setw T k x = T % Bk k + x * Bk k + T / Bk (k + 1) * Bk (k + 1) := by unfold setw; omega
    have e3 : setw T k x / Bk (k + 1) = T / Bk (k + 1) := by
      rw [e2, Nat.add_mul_div_right _ _ (pow_pos64 _), Nat.div_eq_of_lt hb, Nat.zero_add]
    rw [pow_split64 (show k + 1 ≤ n from hk), ← Nat.div_div_eq_div_mul, e3, Nat.div_div_eq_div_mul, ← pow_split64 (show k + 1 ≤ n from hk)]
    exact Nat.div_eq_of_lt hT
  exact (Nat.div_eq_zero_iff.1 e).resolve_left (by have := pow_pos64 n; omega)
theorem setw_add (T k v : Nat) (c : Bool) (y : Nat) (h : v + c.toNat * 18446744073709551616 = limb T k + y) : setw T k v + c.toNat * Bk (k + 1) = T + y * Bk k := by
  unfold setw
  have hle := limb_le T k
  have e : (v + c.toNat * 18446744073709551616) * Bk k = (limb T k + y) * Bk k := by rw [h]
  rw [Nat.add_mul, Nat.add_mul, Nat.mul_assoc] at e
  rw [pow_succ64]
  omega
theorem IntoW.first {T x k : Nat} (hT : T < Bk 13) (hk : k < 13) (hx : x < 18446744073709551616) : IntoW (T + x * Bk k) (k + 1) (setw T k (addv (limb T k) x false)) (addc (limb T k) x false) := by
  refine ⟨setw_lt hT hk (addv_lt _ _ _), setw_add _ _ _ _ _ ?_⟩
  have hl := limb_lt T k
  unfold addv addc
  by_cases hd : 18446744073709551616 ≤ limb T k + x + false.toNat
  · rw [decide_eq_true hd]; simp only [Bool.toNat_true, Bool.toNat_false, Nat.add_zero] at *; omega
  · rw [decide_eq_false hd]; simp only [Bool.toNat_false, Nat.add_zero] at *; omega
theorem IntoW.step {G i S : Nat} (h : IntoW G i S true) (hi : i < 13) : IntoW G (i + 1) (setw S i ((limb S i + 1) % 18446744073709551616)) (decide ((limb S i + 1) % 18446744073709551616 = 0)) := by
  obtain ⟨h1, h2⟩ := h
  refine ⟨setw_lt h1 hi (Nat.mod_lt _ (by decide)), ?_⟩
  rw [setw_add S i _ _ 1, ← h2, Bool.toNat_true]
  have hl := limb_lt S i
  by_cases hd : (limb S i + 1) % 18446744073709551616 = 0
  · rw [decide_eq_true hd]; simp only [Bool.toNat_true]; omega
  · rw [decide_eq_false hd]; simp only [Bool.toNat_false]; omega
theorem IntoW.done {G i S : Nat} {c : Bool} (h : IntoW G i S c) (hG : G < Bk 13) (hc : c = false ∨ 13 ≤ i) : S = G := by
  obtain ⟨h1, h2⟩ := h
  cases c
  · simpa using h2
  · exfalso
    have hi : 13 ≤ i := hc.resolve_left (by simp)
    have : Bk 13 ≤ Bk i := Bk_le hi
    simp only [Bool.toNat_true, Nat.one_mul] at h2
    omega
/-! a product, row by row, each word of it added with its carries -/
def PrW (A B i k : Nat) : Nat := A % Bk i * B + limb A i * (B % Bk k) * Bk i
theorem PrW.zero (A B i : Nat) : PrW A B i 0 = A % Bk i * B := by
  unfold PrW; rw [Bk_zero, Nat.mod_one, Nat.mul_zero, Nat.zero_mul, Nat.add_zero]
theorem PrW.six {B : Nat} (A i n : Nat) (hn : n = 6) (hB : B < Bk n) : PrW A B i n = A % Bk (i + 1) * B := by
  unfold PrW
  rw [Nat.mod_eq_of_lt hB, mod_limb A i, Nat.add_mul, Nat.mul_right_comm]
theorem PrW.succ (A B i k : Nat) : PrW A B i k + mull (limb A i) (limb B k) * Bk (i + k) + mulh (limb A i) (limb B k) * Bk (i + k + 1) = PrW A B i (k + 1) := by
  unfold PrW mull mulh
  rw [mod_limb B k, Nat.mul_add (limb A i), Nat.add_mul, pow_succ64]
  have e1 : limb A i * (limb B k * Bk k) * Bk i = limb A i * limb B k * Bk (i + k) := by
    rw [Bk_add, Nat.mul_comm (Bk i), ← Nat.mul_assoc, ← Nat.mul_assoc]
  rw [e1]
  generalize limb A i * limb B k = q
  generalize Bk (i + k) = p
  have e2 : (q % 18446744073709551616 + q / 18446744073709551616 * 18446744073709551616) * p = q * p := by rw [Nat.mul_comm (q / _), Nat.mod_add_div]
  rw [Nat.add_mul, Nat.mul_assoc] at e2
  omega
theorem PrW.le (A B i k : Nat) : PrW A B i k ≤ A * B := by
  have h1 : PrW A B i k ≤ A % Bk (i + 1) * B := by
    unfold PrW
    rw [mod_limb A i, Nat.add_mul, Nat.mul_right_comm]
    exact Nat.add_le_add_left (Nat.mul_le_mul_left _ (Nat.mod_le _ _)) _
  exact Nat.le_trans h1 (Nat.mul_le_mul_right _ (Nat.mod_le _ _))
/-! compared, word by word from above -/
def cmpW (A B : Nat) : Int := if A < B then -1 else if B < A then 1 else 0
theorem above_lt {A B k : Nat} (h : A / Bk (k + 1) = B / Bk (k + 1)) (hl : limb A k < limb B k) : A < B := by
  have ha := split3 A k
  have hb := split3 B k
  have h1 := Nat.mod_lt A (pow_pos64 k)
  have h2 : (limb A k + 1) * Bk k ≤ limb B k * Bk k := Nat.mul_le_mul_right _ hl
  rw [Nat.add_mul, Nat.one_mul] at h2
  rw [h] at ha
  omega
theorem above_eq {A B k : Nat} (h : A / Bk (k + 1) = B / Bk (k + 1)) (hl : limb A k = limb B k) : A / Bk k = B / Bk k := by
  have e : ∀ X : Nat, X / Bk k = limb X k + 18446744073709551616 * (X / Bk (k + 1)) := fun X => by
    unfold limb
    rw [pow_succ64, Nat.mul_comm 18446744073709551616 (Bk k), ← Nat.div_div_eq_div_mul]
    exact (Nat.mod_add_div _ _).symm
  rw [e A, e B, h, hl]
theorem cmp_lt {A B : Nat} (h : A < B) : cmpW A B = -1 := by unfold cmpW; rw [if_pos h]
theorem cmp_gt {A B : Nat} (h : B < A) : cmpW A B = 1 := by unfold cmpW; rw [if_neg (by omega), if_pos h]
theorem cmp_eq {A B : Nat} (h : A / Bk 0 = B / Bk 0) : cmpW A B = 0 := by
  rw [Bk_zero, Nat.div_one, Nat.div_one] at h
  subst h
  unfold cmpW
  rw [if_neg (by omega), if_neg (by omega)]
theorem above_start {A B : Nat} (hA : A < W384) (hB : B < W384) : A / Bk (5 + 1) = B / Bk (5 + 1) := by
  rw [show A / Bk (5 + 1) = 0 from Nat.div_eq_of_lt hA, show B / Bk (5 + 1) = 0 from Nat.div_eq_of_lt hB]
end Go.Proofs.Yteelconabmfnkaa
