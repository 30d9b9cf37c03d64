/- Quotients and roots of numbers of 384 bits, bit by bit from above. Plain mathematics. -/
import Derived.Test.YtlpgflmjpdhpnaaB
import Derived.Test.YtlpgflmjpdhpnaaM
namespace Go.Proofs.Ytlpgflmjpdhpnaa
set_option linter.unusedVariables false
set_option exponentiation.threshold 1000

theorem bit_split (A k : Nat) : A / 2 ^ k = 2 * (A / 2 ^ (k + 1)) + (A.testBit k).toNat := by
  rw [Nat.pow_succ, ← Nat.div_div_eq_div_mul, Nat.testBit_eq_decide_div_mod_eq]
  have := Nat.mod_two_eq_zero_or_one (A / 2 ^ k)
  rcases this with h | h
  · rw [h]; simp; omega
  · rw [h]; simp; omega
/-- k bits to go -/
def DivK (A B k q r : Nat) : Prop := q = A / 2 ^ k / B * 2 ^ k ∧ r = A / 2 ^ k % B
theorem DivK.start {A B k : Nat} (h : A < 2 ^ k) : DivK A B k 0 0 := by
  refine ⟨?_, ?_⟩ <;> rw [Nat.div_eq_of_lt h] <;> simp
theorem DivK.low {A B k q r : Nat} (h : DivK A B (k + 1) q r) : q.testBit k = false := by
  rw [h.1, Nat.testBit_mul_two_pow, decide_eq_false (by omega), Bool.false_and]
theorem DivK.lt {A B k q r : Nat} (h : DivK A B k q r) (hB : 0 < B) : r < B := by rw [h.2]; exact Nat.mod_lt _ hB
theorem DivK.le {A B k q r : Nat} (h : DivK A B k q r) : q ≤ A := by
  rw [h.1]
  refine Nat.le_trans (Nat.mul_le_mul_right _ (Nat.div_le_self _ _)) ?_
  exact Nat.div_mul_le_self _ _
theorem DivK.step {A B k q r : Nat} (h : DivK A B (k + 1) q r) (hB : 0 < B) :
    (2 * r + (A.testBit k).toNat < B → DivK A B k q (2 * r + (A.testBit k).toNat)) ∧ (B ≤ 2 * r + (A.testBit k).toNat → DivK A B k (q + 2 ^ k) (2 * r + (A.testBit k).toNat - B)) := by
  have hr := h.lt hB
  obtain ⟨h1, h2⟩ := h
  have hs := bit_split A k
  have hb := Bool.toNat_le (A.testBit k)
  generalize A / 2 ^ (k + 1) = a at *
  generalize (A.testBit k).toNat = x at *
  have hd := Nat.mod_add_div a B
  rw [← h2] at hd
  have e : A / 2 ^ k = B * (2 * (a / B)) + (2 * r + x) := by
    rw [hs, Nat.mul_left_comm]; omega
  rw [Nat.pow_succ, Nat.mul_comm (2 ^ k) 2, ← Nat.mul_assoc, Nat.mul_comm _ 2] at h1
  constructor
  · intro hlt
    refine ⟨?_, ?_⟩
    · rw [e, Nat.mul_add_div hB, Nat.div_eq_of_lt hlt, Nat.add_zero, h1]
    · rw [e, Nat.mul_add_mod, Nat.mod_eq_of_lt hlt]
  · intro hge
    have hlt : 2 * r + x - B < B := by omega
    have e2 : A / 2 ^ k = B * (2 * (a / B) + 1) + (2 * r + x - B) := by
      rw [e, Nat.mul_add, Nat.mul_one]; omega
    refine ⟨?_, ?_⟩
    · rw [e2, Nat.mul_add_div hB, Nat.div_eq_of_lt hlt, Nat.add_zero, h1, Nat.add_mul, Nat.one_mul]
    · rw [e2, Nat.mul_add_mod, Nat.mod_eq_of_lt hlt]
theorem DivK.done {A B q r : Nat} (h : DivK A B 0 q r) : q = A / B ∧ r = A % B := by
  obtain ⟨h1, h2⟩ := h
  rw [Nat.pow_zero, Nat.div_one] at h1 h2
  exact ⟨by rw [h1, Nat.mul_one], h2⟩
/-- the step as words do it: twice what is left, and a bit; the difference where it is to be taken -/
theorem twice_word {r x : Nat} (hr : r < W384) (hx : x ≤ 1) : leftW r 1 + x = (2 * r + x) % W384 ∧ leftW r 1 % 2 = 0 := by
  have hW : W384 = 2 * 2 ^ 383 := (show W384 = 2 ^ 384 from Bk_two 6).trans Nat.pow_succ'
  have e : leftW r 1 = 2 * r % W384 := by unfold leftW; rw [Nat.pow_one, Nat.mul_comm]
  rw [e]
  generalize hp : (2 : Nat) ^ 383 = p at *
  rw [hW] at hr ⊢
  rw [Nat.mul_mod_mul_left]
  refine ⟨?_, by omega⟩
  rcases Nat.lt_or_ge r p with h | h
  · rw [Nat.mod_eq_of_lt h, Nat.mod_eq_of_lt (by omega)]
  · have h1 : r % p = r - p := by rw [Nat.mod_eq_sub_mod h, Nat.mod_eq_of_lt (by omega)]
    rw [h1, Nat.mod_eq_sub_mod (by omega), Nat.mod_eq_of_lt (by omega)]
    omega
theorem top_bit {r : Nat} (hr : r < W384) : r.testBit 383 = decide (W384 ≤ 2 * r) := by
  have hW : W384 = 2 * 2 ^ 383 := (show W384 = 2 ^ 384 from Bk_two 6).trans Nat.pow_succ'
  rw [Nat.testBit_eq_decide_div_mod_eq]
  rw [hW] at hr ⊢
  have hpos := Nat.two_pow_pos 383
  generalize (2 : Nat) ^ 383 = p at *
  congr 1
  apply propext
  rcases Nat.lt_or_ge r p with h | h
  · rw [Nat.div_eq_of_lt h]; omega
  · have : r / p = 1 := by
      rw [Nat.div_eq_iff hpos]; omega
    rw [this]; omega
/-- what the step's test says, and what the difference is -/
theorem take_word {n B : Nat} (hB : B < W384) (h0 : 0 < B) (hn : n < 2 * B) :
    ((W384 ≤ n ∨ B ≤ n % W384) ↔ B ≤ n) ∧ (B ≤ n → subW (n % W384) B = n - B) := by
  unfold subW
  have hpos := W384_pos
  generalize W384 = p at *
  rcases Nat.lt_or_ge n p with h | h
  · rw [Nat.mod_eq_of_lt h]
    refine ⟨by omega, fun hle => ?_⟩
    rw [show p - B + n = (n - B) + p by omega, Nat.add_mod_right, Nat.mod_eq_of_lt (by omega)]
  · have h1 : n % p = n - p := by rw [Nat.mod_eq_sub_mod h, Nat.mod_eq_of_lt (by omega)]
    rw [h1]
    refine ⟨by omega, fun hle => ?_⟩
    rw [show p - B + (n - p) = n - B by omega, Nat.mod_eq_of_lt (by omega)]
/-- a root, two bits a step: k pairs to go -/
def SqK (A k root rest : Nat) : Prop := root * root + rest = A / 2 ^ (2 * k) ∧ rest ≤ 2 * root
theorem SqK.start {A k : Nat} (h : A < 2 ^ (2 * k)) : SqK A k 0 0 := ⟨by rw [Nat.div_eq_of_lt h], by omega⟩
theorem SqK.step {A k root rest : Nat} (h : SqK A (k + 1) root rest) :
    (4 * rest + A / 2 ^ (2 * k) % 4 < 4 * root + 1 → SqK A k (2 * root) (4 * rest + A / 2 ^ (2 * k) % 4)) ∧
    (4 * root + 1 ≤ 4 * rest + A / 2 ^ (2 * k) % 4 → SqK A k (2 * root + 1) (4 * rest + A / 2 ^ (2 * k) % 4 - (4 * root + 1))) := by
  obtain ⟨h1, h2⟩ := h
  have e := div_two A (2 * k)
  rw [show 2 * k + 2 = 2 * (k + 1) by omega, ← h1] at e
  have e1 : 2 * root * (2 * root) = 4 * (root * root) := by rw [Nat.mul_mul_mul_comm]
  have e2 : (2 * root + 1) * (2 * root + 1) = 4 * (root * root) + 4 * root + 1 := by rw [Nat.add_mul, Nat.mul_add, e1]; omega
  have hd : A / 2 ^ (2 * k) % 4 < 4 := Nat.mod_lt _ (by decide)
  generalize A / 2 ^ (2 * k) % 4 = d at *
  refine ⟨fun h => ⟨by rw [e1]; omega, by omega⟩, fun h => ⟨by rw [e2]; omega, by omega⟩⟩
theorem SqK.done {A root rest : Nat} (h : SqK A 0 root rest) : Root A root rest := ⟨by have := h.1; simpa using this, h.2⟩
theorem SqK.bounds {A k root rest : Nat} (h : SqK A k root rest) (hA : A < W384) : root < 2 ^ 192 ∧ rest ≤ 2 * root := by
  refine ⟨?_, h.2⟩
  rcases Nat.lt_or_ge root (2 ^ 192) with hl | hl
  · exact hl
  · exfalso
    have h1 := Nat.mul_le_mul hl hl
    rw [← Nat.pow_add, show 192 + 192 = 384 from rfl, ← show W384 = 2 ^ 384 from Bk_two 6] at h1
    have h2 := h.1
    have h3 : A / 2 ^ (2 * k) ≤ A := Nat.div_le_self _ _
    omega
/-- a root, a bit a step: k bits to go -/
def RfK (A k root : Nat) : Prop := root % 2 ^ k = 0 ∧ root * root ≤ A ∧ A < (root + 2 ^ k) * (root + 2 ^ k)
theorem RfK.start {A : Nat} (h : A < W384) : RfK A 192 0 := by
  refine ⟨by simp, by omega, ?_⟩
  rw [Nat.zero_add, ← Nat.pow_add, show 192 + 192 = 384 from rfl, ← show W384 = 2 ^ 384 from Bk_two 6]
  exact h
theorem RfK.low {A k root : Nat} (h : RfK A (k + 1) root) : root.testBit k = false := by
  have h1 := Nat.div_add_mod root (2 ^ (k + 1))
  rw [h.1, Nat.add_zero] at h1
  rw [← h1, Nat.mul_comm, Nat.testBit_mul_two_pow, decide_eq_false (by omega), Bool.false_and]
theorem RfK.step {A k root : Nat} (h : RfK A (k + 1) root) :
    ((root + 2 ^ k) * (root + 2 ^ k) ≤ A → RfK A k (root + 2 ^ k)) ∧ (A < (root + 2 ^ k) * (root + 2 ^ k) → RfK A k root) := by
  obtain ⟨h1, h2, h3⟩ := h
  have hm : root % 2 ^ k = 0 := by
    have h4 := Nat.mod_mod_of_dvd root (Nat.pow_dvd_pow 2 (Nat.le_succ k))
    rw [Nat.succ_eq_add_one, h1, Nat.zero_mod] at h4
    exact h4.symm
  refine ⟨fun h => ⟨by rw [Nat.add_mod_right, hm], h, ?_⟩, fun h => ⟨hm, h2, h⟩⟩
  rw [Nat.pow_succ] at h3
  rw [show root + 2 ^ k + 2 ^ k = root + 2 ^ k * 2 by omega]
  exact h3
theorem RfK.done {A root : Nat} (h : RfK A 0 root) : Root A root (A - root * root) := by
  obtain ⟨_, h2, h3⟩ := h
  rw [Nat.pow_zero, Nat.add_mul, Nat.mul_add] at h3
  exact ⟨by omega, by omega⟩
theorem RfK.next {A k root : Nat} (h : RfK A (k + 1) root) (hA : A < W384) (hk : k < 192) : root + 2 ^ k < 2 ^ 192 := by
  have hb : root < 2 ^ 192 := by
    rcases Nat.lt_or_ge root (2 ^ 192) with hl | hl
    · exact hl
    · exfalso
      have h1 := Nat.mul_le_mul hl hl
      rw [← Nat.pow_add, show 192 + 192 = 384 from rfl, ← show W384 = 2 ^ 384 from Bk_two 6] at h1
      have h2 := h.2.1
      omega
  have h1 := Nat.div_add_mod root (2 ^ (k + 1))
  rw [h.1, Nat.add_zero] at h1
  have h3 : (2 : Nat) ^ 192 = 2 ^ (k + 1) * 2 ^ (192 - (k + 1)) := by rw [← Nat.pow_add]; congr 1; omega
  have hlt : root / 2 ^ (k + 1) < 2 ^ (192 - (k + 1)) := by
    rw [Nat.div_lt_iff_lt_mul (Nat.two_pow_pos _), Nat.mul_comm, ← h3]; exact hb
  have h4 : 2 ^ (k + 1) * (root / 2 ^ (k + 1) + 1) ≤ 2 ^ (k + 1) * 2 ^ (192 - (k + 1)) := Nat.mul_le_mul_left _ hlt
  rw [← h3, Nat.mul_add, h1, Nat.mul_one, Nat.pow_succ] at h4
  have := Nat.two_pow_pos k
  omega
theorem RfK.bound {A k root : Nat} (h : RfK A k root) (hA : A < W384) : root < 2 ^ 192 := by
  rcases Nat.lt_or_ge root (2 ^ 192) with hl | hl
  · exact hl
  · exfalso
    have h1 := Nat.mul_le_mul hl hl
    rw [← Nat.pow_add, show 192 + 192 = 384 from rfl, ← show W384 = 2 ^ 384 from Bk_two 6] at h1
    have h2 := h.2.1
    omega
theorem two_bits (A e : Nat) (he : e % 2 = 0) : bits .and .u64 (((limb A (e / 64) : Nat) : Int) / 2 ^ (e % 64)) 3 = ((A / 2 ^ e % 4 : Nat) : Int) := by
  rw [and_three]
  congr 1
  rw [show (4 : Nat) = 2 ^ 2 from rfl]
  apply Nat.eq_of_testBit_eq
  intro j
  rw [Nat.testBit_mod_two_pow, Nat.testBit_mod_two_pow, Nat.testBit_div_two_pow, Nat.testBit_div_two_pow, limb_bit]
  by_cases hj : j < 2
  · rw [decide_eq_true (by omega : j + e % 64 < 64), Bool.true_and]
    congr 2
    omega
  · rw [decide_eq_false hj, Bool.false_and, Bool.false_and]
theorem small_left {r c : Nat} (m : Nat) (h : r < 2 ^ m) (hm : m + c ≤ 384) : leftW r c = r * 2 ^ c := by
  unfold leftW
  refine Nat.mod_eq_of_lt (Nat.lt_of_lt_of_le (Nat.mul_lt_mul_of_pos_right h (Nat.two_pow_pos c)) ?_)
  rw [← Nat.pow_add, W384_two]
  exact Nat.pow_le_pow_right (by decide) hm
theorem SqK.ex (A : Nat) (hA : A < W384) : ∀ k, k ≤ 192 → ∃ r s, SqK A (192 - k) r s
  | 0, _ => ⟨0, 0, SqK.start (by rw [show 2 * (192 - 0) = 384 from rfl, ← W384_two]; exact hA)⟩
  | k + 1, h => by
    obtain ⟨r, s, hr⟩ := SqK.ex A hA k (by omega)
    rw [show 192 - k = (192 - (k + 1)) + 1 by omega] at hr
    obtain ⟨s1, s2⟩ := hr.step
    rcases Nat.lt_or_ge (4 * s + A / 2 ^ (2 * (192 - (k + 1))) % 4) (4 * r + 1) with h1 | h1
    · exact ⟨_, _, s1 h1⟩
    · exact ⟨_, _, s2 h1⟩
theorem rootW {A : Nat} (hA : A < W384) : ∃ r s, Root A r s ∧ r < 2 ^ 192 := by
  obtain ⟨r, s, h⟩ := SqK.ex A hA 192 (Nat.le_refl _)
  exact ⟨r, s, h.done, (h.bounds hA).1⟩
end Go.Proofs.Ytlpgflmjpdhpnaa
