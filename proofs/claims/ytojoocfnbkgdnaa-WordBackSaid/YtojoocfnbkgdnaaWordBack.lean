/- The law WordBack returns true for every input. -/
import Derived.Test.YtojoocfnbkgdnaaA
import Derived.Test.YtojoocfnbkgdnaaV
namespace Go.Proofs.Ytojoocfnbkgdnaa
open Go.RowKit
set_option maxHeartbeats 4000000
set_option maxRecDepth 100000
set_option linter.unusedVariables false
set_option linter.unusedSimpArgs false
theorem back_sub (a b : Nat) (c : Bool) (ha : a < 18446744073709551616) (hb : b < 18446744073709551616) : subv (addv a b c) b c = a ∧ subc (addv a b c) b c = addc a b c := by
  unfold subv subc addv addc
  cases c <;> simp only [Bool.toNat_false, Bool.toNat_true]
  · refine ⟨by omega, ?_⟩
    rw [Bool.eq_iff_iff]; simp only [decide_eq_true_eq]; omega
  · refine ⟨by omega, ?_⟩
    rw [Bool.eq_iff_iff]; simp only [decide_eq_true_eq]; omega
theorem ext_full (a : Nat) (ha : a < 18446744073709551616) : extv a 64 = a := by
  unfold extv
  rw [show (2 : Nat) ^ 64 = 18446744073709551616 by decide, Nat.mod_eq_of_lt ha]
  split <;> omega
theorem ext_lt (a m : Nat) (h1 : 1 ≤ m) (h2 : m ≤ 64) : extv a m < 18446744073709551616 := by
  have hp : 2 ^ m ≤ 2 ^ 64 := Nat.pow_le_pow_right (by decide) h2
  have := Nat.mod_lt a (Nat.two_pow_pos m)
  unfold extv
  split <;> omega
theorem ext_twice (a m : Nat) (h1 : 1 ≤ m) (h2 : m ≤ 64) : extv (extv a m) m = extv a m := by
  have hp : 2 ^ m ≤ 2 ^ 64 := Nat.pow_le_pow_right (by decide) h2
  have h0 := Nat.mod_lt a (Nat.two_pow_pos m)
  have e : extv a m % 2 ^ m = a % 2 ^ m := by
    unfold extv
    split
    · rw [Nat.mod_mod]
    · have e2 : 18446744073709551616 - 2 ^ m = 2 ^ m * (2 ^ (64 - m) - 1) := by
        rw [Nat.mul_sub, ← Nat.pow_add, show m + (64 - m) = 64 by omega]; omega
      rw [e2, Nat.add_mul_mod_self_left, Nat.mod_mod]
  obtain ⟨y, hy⟩ : ∃ y, extv a m = y := ⟨_, rfl⟩
  rw [hy] at e ⊢
  unfold extv
  rw [e, ← hy]
  rfl
theorem shift_back (y k : Nat) (hk : k < 64) (hy : y < 18446744073709551616) : (y / 2 ^ k) * 2 ^ k % 18446744073709551616 / 2 ^ k = y / 2 ^ k := by
  have h1 : (y / 2 ^ k) * 2 ^ k ≤ y := Nat.div_mul_le_self y (2 ^ k)
  rw [Nat.mod_eq_of_lt (by omega), Nat.mul_div_cancel _ (Nat.two_pow_pos k)]
theorem and_63 (n : Int) : bits .and .i64 n 63 = n % 64 := and_i64 n 6 (by decide)
theorem walk_WordBack (a b : Int) (c : Bool) (n : Int) (w0 : (Lit.int .u64 a).wf = true) (w1 : (Lit.int .u64 b).wf = true) (w3 : (Lit.int .i64 n).wf = true) (w : World) :
    Calls Try.prog 6 #[.int .u64 a, .int .u64 b, .bool c, .int .i64 n] w fun e w' => e = .returned (.bool true) ∧ Below w.heap.size w w' := by
  obtain ⟨a, rfl, ha⟩ := nat_u64 w0
  obtain ⟨b, rfl, hb⟩ := nat_u64 w1
  obtain ⟨k, hk⟩ : ∃ k : Nat, n % 64 = k := ⟨(n % 64).toNat, by omega⟩
  have hk64 : k < 64 := by omega
  have f1 := and_63 n
  rw [hk] at f1
  obtain ⟨s1, s2⟩ := back_sub a b c ha hb
  obtain ⟨s, hs⟩ : ∃ s, addv a b c = s := ⟨_, rfl⟩
  have hs64 : Hid (s < 18446744073709551616) := Lib.hid (by rw [← hs]; exact addv_lt a b c)
  rw [hs] at s1 s2
  have e64 := ext_full a ha
  have c64 : max 1 (clamp 64 64) = 64 := by decide
  obtain ⟨m, hm⟩ : ∃ m, max 1 (clamp n 64) = m := ⟨_, rfl⟩
  have hm1 : 1 ≤ m := by omega
  have hm2 : m ≤ 64 := by have := clamp_le n 64; omega
  obtain ⟨x, hx⟩ : ∃ x, extv a m = x := ⟨_, rfl⟩
  have hx64 : Hid (x < 18446744073709551616) := Lib.hid (by rw [← hx]; exact ext_lt a m hm1 hm2)
  have ex := ext_twice a m hm1 hm2
  rw [hx] at ex
  have ck : clamp (k : Int) 64 = k := by rw [clamp_of _ _ (by omega) (by omega)]; simp
  obtain ⟨y, hy⟩ : ∃ y, a / 2 ^ k = y := ⟨_, rfl⟩
  obtain ⟨z, hz⟩ : ∃ z, y * 2 ^ k % 18446744073709551616 = z := ⟨_, rfl⟩
  have ez : z / 2 ^ k = y := by rw [← hz, ← hy]; exact shift_back a k hk64 ha
  have hA := Lib.hid ha
  have hB := Lib.hid hb
  have C1 : Hid (∀ W, Calls Try.prog 13 #[.int .u64 a, .int .u64 b, .bool c] W fun e w' => e = .returned (.tuple #[.int .u64 (s : Nat), .bool (addc a b c)]) ∧ w' = W) := Lib.hid (fun W => by have := add_c a b c W ha hb; rwa [hs] at this)
  have C2 : Hid (∀ W, Calls Try.prog 15 #[.int .u64 s, .int .u64 b, .bool c] W fun e w' => e = .returned (.tuple #[.int .u64 (a : Nat), .bool (addc a b c)]) ∧ w' = W) := Lib.hid (fun W => by have := sub_c s b c W hs64.out hb; rwa [s1, s2] at this)
  have C3 : Hid (∀ W, Calls Try.prog 17 #[.int .u64 a, .int .i64 64] W fun e w' => e = .returned (.int .u64 (a : Nat)) ∧ w' = W) := Lib.hid (fun W => by have := extend_c a 64 W ha; rwa [c64, e64] at this)
  have C4 : Hid (∀ W, Calls Try.prog 17 #[.int .u64 a, .int .i64 n] W fun e w' => e = .returned (.int .u64 (x : Nat)) ∧ w' = W) := Lib.hid (fun W => by have := extend_c a n W ha; rwa [hm, hx] at this)
  have C5 : Hid (∀ W, Calls Try.prog 17 #[.int .u64 x, .int .i64 n] W fun e w' => e = .returned (.int .u64 (x : Nat)) ∧ w' = W) := Lib.hid (fun W => by have := extend_c x n W hx64.out; rwa [hm, ex] at this)
  have C6 : Hid (∀ W, Calls Try.prog 18 #[.int .u64 a, .int .i64 k] W fun e w' => e = .returned (.int .u64 (y : Nat)) ∧ w' = W) := Lib.hid (fun W => by have := right_c a k W; rwa [ck, hy] at this)
  have C7 : Hid (∀ W, Calls Try.prog 19 #[.int .u64 y, .int .i64 k] W fun e w' => e = .returned (.int .u64 (z : Nat)) ∧ w' = W) := Lib.hid (fun W => by have := left_c y k W; rwa [ck, hz] at this)
  have C8 : Hid (∀ W, Calls Try.prog 18 #[.int .u64 z, .int .i64 k] W fun e w' => e = .returned (.int .u64 (y : Nat)) ∧ w' = W) := Lib.hid (fun W => by have := right_c z k W; rwa [ck, ez] at this)
  clear ha hb w0 w1 w3 hk s1 s2 hs e64 c64 hm hx ex ck hy hz ez
  go_enter Try.func6, Try.ntmps6
  go_wp2_with (first
    | (go_at_call 13; (with_reducible refine (C1.out _).mono ?_); rintro e w' ⟨rfl, rfl⟩)
    | (go_at_call 15; (with_reducible refine (C2.out _).mono ?_); rintro e w' ⟨rfl, rfl⟩)
    | (go_at_call 17; (with_reducible refine (C3.out _).mono ?_); rintro e w' ⟨rfl, rfl⟩)
    | (go_at_call 17; (with_reducible refine (C4.out _).mono ?_); rintro e w' ⟨rfl, rfl⟩)
    | (go_at_call 17; (with_reducible refine (C5.out _).mono ?_); rintro e w' ⟨rfl, rfl⟩)
    | (go_at_call 18; (with_reducible refine (C6.out _).mono ?_); rintro e w' ⟨rfl, rfl⟩)
    | (go_at_call 19; (with_reducible refine (C7.out _).mono ?_); rintro e w' ⟨rfl, rfl⟩)
    | (go_at_call 18; (with_reducible refine (C8.out _).mono ?_); rintro e w' ⟨rfl, rfl⟩)
    | (go_at_call 12; (with_reducible refine (alive_c _).mono ?_); rintro e w' ⟨rfl, rfl⟩))
  go_ret
  exact ⟨rfl, Below.refl _ _⟩
end Go.Proofs.Ytojoocfnbkgdnaa
