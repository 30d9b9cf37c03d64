/- Contracts of the functions of package word and of math/bits that they call. -/
import Derived.Test.YtojoocfnbkgdnaaRows
import Derived.Test.YtojoocfnbkgdnaaM
import Derived.Test.YtojoocfnbkgdnaaL
import Derived.WalkKit
import Derived.Below
import Derived.Lib.Hide
import Derived.WalkMore
import Derived.ScopeJumps
import Derived.Laws.BitsLemmas
import Derived.Outline
namespace Go.Proofs.Ytojoocfnbkgdnaa
open Go.RowKit
set_option maxHeartbeats 4000000
set_option maxRecDepth 100000
set_option linter.unusedVariables false
set_option linter.unusedSimpArgs false

theorem one_c (c : Bool) (w : World) : Calls Try.prog 33 #[.bool c] w fun e w' => e = .returned (.int .u64 (c.toNat : Nat)) ∧ w' = w := by
  cases c
  · go_enter Try.func33, Try.ntmps33
    go_wp2
    go_ret
    exact ⟨rfl, rfl⟩
  · go_enter Try.func33, Try.ntmps33
    go_wp2
    go_ret
    exact ⟨rfl, rfl⟩

theorem count_c (n : Int) (w : World) : Calls Try.prog 34 #[.int .i64 n] w fun e w' => e = .returned (.int .u64 (clamp n 64 : Nat)) ∧ w' = w := by
  go_enter Try.func34, Try.ntmps34
  go_wp2
  go_ret
  exact ⟨ret1 (vint (by unfold clamp; omega)), rfl⟩

theorem add_c (a b : Nat) (c : Bool) (w : World) (ha : a < 18446744073709551616) (hb : b < 18446744073709551616) :
    Calls Try.prog 13 #[.int .u64 a, .int .u64 b, .bool c] w fun e w' => e = .returned (.tuple #[.int .u64 (addv a b c : Nat), .bool (addc a b c)]) ∧ w' = w := by
  have e1 := Lib.hid (addv_int a b c)
  by_cases hlt : IntKind.u64.wrap ((a : Int) + b) < a
  · have e2 := Lib.hid (addc_lt a b c ha hb hlt)
    clear ha hb
    go_enter Try.func13, Try.ntmps13
    go_wp2_with (go_at_call 33; refine (one_c _ _).mono ?_; rintro e w' ⟨rfl, rfl⟩)
    go_ret2
    rw [e2.out, ← e1.out]
    exact ⟨rfl, rfl⟩
  · have hle := Int.not_lt.1 hlt
    have hltb : decide (IntKind.u64.wrap ((a : Int) + b) < a) = false := decide_eq_false hlt
    cases c
    · have e2 := Lib.hid (addc_f a b ha hb hle)
      clear ha hb hlt
      go_enter Try.func13, Try.ntmps13
      go_wp2_with (go_at_call 33; refine (one_c _ _).mono ?_; rintro e w' ⟨rfl, rfl⟩)
      go_ret2
      rw [e2.out, ← e1.out]
      exact ⟨by simp, rfl⟩
    · have e2 := Lib.hid (addc_t a b ha hb hle)
      clear ha hb hlt
      go_enter Try.func13, Try.ntmps13
      go_wp2_with (go_at_call 33; refine (one_c _ _).mono ?_; rintro e w' ⟨rfl, rfl⟩)
      go_ret2
      rw [e2.out]
      refine ⟨ret2 (vint e1.out) (vbool ?_), rfl⟩
      show (IntKind.u64.wrap (IntKind.u64.wrap ((a : Int) + b) + (true.toNat : Nat)) == 0) = _
      rw [e1.out]
      rw [Bool.eq_iff_iff]; simp only [beq_iff_eq]; omega

theorem sub_c (a b : Nat) (c : Bool) (w : World) (ha : a < 18446744073709551616) (hb : b < 18446744073709551616) :
    Calls Try.prog 15 #[.int .u64 a, .int .u64 b, .bool c] w fun e w' => e = .returned (.tuple #[.int .u64 (subv a b c : Nat), .bool (subc a b c)]) ∧ w' = w := by
  have e1 := Lib.hid (subv_int a b c hb)
  by_cases hlt : a < b
  · have e2 := Lib.hid (show subc a b c = true by unfold subc; rw [decide_eq_true_eq]; omega)
    have hltb : decide (a < b) = true := decide_eq_true hlt
    clear ha hb
    go_enter Try.func15, Try.ntmps15
    go_wp2_with (go_at_call 33; refine (one_c _ _).mono ?_; rintro e w' ⟨rfl, rfl⟩)
    go_ret2
    rw [e2.out]
    exact ⟨ret2 (vint e1.out) rfl, rfl⟩
  · have hltb : decide (a < b) = false := decide_eq_false hlt
    by_cases heq : a = b
    · subst heq
      have e2 := Lib.hid (show subc a a c = c by unfold subc; cases c <;> simp)
      clear ha hb
      go_enter Try.func15, Try.ntmps15
      go_wp2_with (go_at_call 33; refine (one_c _ _).mono ?_; rintro e w' ⟨rfl, rfl⟩)
      go_ret2
      rw [e2.out]
      refine ⟨ret2 (vint ?_) (vbool ?_), rfl⟩
      · rw [← e1.out]; simp; rw [IntKind.wrap_u64, IntKind.wrap_u64, IntKind.wrap_u64]; omega
      · simp
    · have heqb : ((a : Int) == (b : Int)) = false := by rw [beq_eq_false_iff_ne]; omega
      have e2 := Lib.hid (show subc a b c = false by unfold subc; rw [decide_eq_false_iff_not]; cases c <;> simp <;> omega)
      clear ha hb
      go_enter Try.func15, Try.ntmps15
      go_wp2_with (go_at_call 33; refine (one_c _ _).mono ?_; rintro e w' ⟨rfl, rfl⟩)
      go_ret2
      rw [e2.out]
      exact ⟨ret2 (vint e1.out) rfl, rfl⟩

theorem mul64_c (a b : Nat) (w : World) (ha : a < 18446744073709551616) (hb : b < 18446744073709551616) :
    Calls Try.prog 30 #[.int .u64 a, .int .u64 b] w fun e w' => e = .returned (.tuple #[.int .u64 (mulh a b : Nat), .int .u64 (mull a b : Nat)]) ∧ w' = w := by
  have hA := Lib.hid ha
  have hB := Lib.hid hb
  clear ha hb
  go_enter Try.func30, Try.ntmps30
  go_wp2
  go_ret2
  refine ⟨ret2 (vint ?_) (vint ?_), rfl⟩
  · simp only [and_mask32, IntKind.wrap_u64, mulh]
    have := mul64_arith a b (by omega) (by have := hA.out; omega) (by omega) (by have := hB.out; omega)
    rw [this]
    simp
  · rw [IntKind.wrap_u64]; unfold mull; simp

theorem len_c (a : Nat) (w : World) (ha : a < 18446744073709551616) :
    Calls Try.prog 32 #[.int .u64 a] w fun e w' => e = .returned (.int .i64 (Lib.bitLen a : Nat)) ∧ w' = w := by
  have c1 := Lib.hid ha
  clear ha
  go_enter Try.func32, Try.ntmps32
  go_wp2_with (go_at_call 36; refine (len64_c _ _ c1.out).mono ?_; rintro e w' ⟨rfl, rfl⟩)
  go_ret
  exact ⟨rfl, rfl⟩
theorem mul_c (a b : Nat) (w : World) (ha : a < 18446744073709551616) (hb : b < 18446744073709551616) :
    Calls Try.prog 10 #[.int .u64 a, .int .u64 b] w fun e w' => e = .returned (.tuple #[.int .u64 (mulh a b : Nat), .int .u64 (mull a b : Nat)]) ∧ w' = w := by
  have c1 := Lib.hid ha
  have c2 := Lib.hid hb
  clear ha hb
  go_enter Try.func10, Try.ntmps10
  go_wp2_with (go_at_call 30; refine (mul64_c _ _ _ c1.out c2.out).mono ?_; rintro e w' ⟨rfl, rfl⟩)
  go_ret2
  exact ⟨rfl, rfl⟩

theorem left_c (a : Nat) (n : Int) (w : World) :
    Calls Try.prog 19 #[.int .u64 a, .int .i64 n] w fun e w' => e = .returned (.int .u64 (a * 2 ^ clamp n 64 % 18446744073709551616 : Nat)) ∧ w' = w := by
  have hc := clamp_le n 64
  obtain ⟨m, hm⟩ : ∃ m : Nat, clamp n 64 = m := ⟨_, rfl⟩
  have H := Lib.hid hm
  rw [hm] at hc ⊢
  clear hm
  go_enter Try.func19, Try.ntmps19
  go_wp2_with (go_at_call 34; refine (count_c _ _).mono ?_; rw [H.out]; rintro e w' ⟨rfl, rfl⟩)
  go_ret
  refine ⟨ret1 (vint ?_), rfl⟩
  rw [← wrap_nat]; simp
theorem right_c (a : Nat) (n : Int) (w : World) :
    Calls Try.prog 18 #[.int .u64 a, .int .i64 n] w fun e w' => e = .returned (.int .u64 (a / 2 ^ clamp n 64 : Nat)) ∧ w' = w := by
  have hc := clamp_le n 64
  obtain ⟨m, hm⟩ : ∃ m : Nat, clamp n 64 = m := ⟨_, rfl⟩
  have H := Lib.hid hm
  rw [hm] at hc ⊢
  clear hm
  go_enter Try.func18, Try.ntmps18
  go_wp2_with (go_at_call 34; refine (count_c _ _).mono ?_; rw [H.out]; rintro e w' ⟨rfl, rfl⟩)
  go_ret
  refine ⟨ret1 (vint ?_), rfl⟩
  simp
theorem mask_c (n : Int) (w : World) :
    Calls Try.prog 22 #[.int .i64 n] w fun e w' => e = .returned (.int .u64 (2 ^ clamp n 64 - 1 : Nat)) ∧ w' = w := by
  have hc := clamp_le n 64
  obtain ⟨m, hm⟩ : ∃ m : Nat, clamp n 64 = m := ⟨_, rfl⟩
  have H := Lib.hid hm
  rw [hm] at hc ⊢
  clear hm
  go_enter Try.func22, Try.ntmps22
  go_wp2_with (go_at_call 34; refine (count_c _ _).mono ?_; rw [H.out]; rintro e w' ⟨rfl, rfl⟩)
  go_ret
  refine ⟨ret1 (vint ?_), rfl⟩
  exact mask_int m hc

theorem field_c (a : Nat) (low n : Int) (w : World) (ha : a < 18446744073709551616) :
    Calls Try.prog 24 #[.int .u64 a, .int .i64 low, .int .i64 n] w fun e w' => e = .returned (.int .u64 (a / 2 ^ clamp low 64 % 2 ^ clamp n 64 : Nat)) ∧ w' = w := by
  obtain ⟨y, hy⟩ : ∃ y : Nat, a / 2 ^ clamp low 64 = y := ⟨_, rfl⟩
  obtain ⟨z, hz⟩ : ∃ z : Nat, 2 ^ clamp n 64 - 1 = z := ⟨_, rfl⟩
  have e1 := Lib.hid (show bits .and .u64 (y : Int) (z : Int) = ((a / 2 ^ clamp low 64 % 2 ^ clamp n 64 : Nat) : Int) by
    have h1 := clamp_le n 64
    have hp : 2 ^ clamp n 64 ≤ 2 ^ 64 := Nat.pow_le_pow_right (by decide) h1
    have h2 : y < 18446744073709551616 := by rw [← hy]; exact Nat.lt_of_le_of_lt (Nat.div_le_self _ _) ha
    rw [and_nat y z h2 (by have := Nat.two_pow_pos (clamp n 64); omega), ← hz, Nat.and_two_pow_sub_one_eq_mod, hy])
  have H := Lib.hid hy
  have H2 := Lib.hid hz
  clear hy hz ha
  go_enter Try.func24, Try.ntmps24
  go_wp2_with (first
    | (go_at_call 18; refine (right_c _ _ _).mono ?_; rw [H.out]; rintro e w' ⟨rfl, rfl⟩)
    | (go_at_call 22; refine (mask_c _ _).mono ?_; rw [H2.out]; rintro e w' ⟨rfl, rfl⟩))
  go_ret
  exact ⟨ret1 (vint e1.out), rfl⟩
end Go.Proofs.Ytojoocfnbkgdnaa
