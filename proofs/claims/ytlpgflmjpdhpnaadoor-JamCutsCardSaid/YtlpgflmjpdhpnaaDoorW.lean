/- Contracts of the functions of package word and of math/bits that they call. -/
import Derived.Test.YtlpgflmjpdhpnaaDoorRows
import Derived.Test.YtlpgflmjpdhpnaaDoorM
import Derived.Test.YtlpgflmjpdhpnaaDoorL
import Derived.WalkKit
import Derived.Below
import Derived.Lib.Hide
import Derived.WalkMore
import Derived.ScopeJumps
import Derived.Laws.BitsLemmas
import Derived.Outline
namespace Go.Proofs.YtlpgflmjpdhpnaaDoor
open Go.RowKit
set_option maxHeartbeats 4000000
set_option maxRecDepth 100000
set_option linter.unusedVariables false
set_option linter.unusedSimpArgs false

theorem one_c (c : Bool) (w : World) : Calls Tryd.prog 57 #[.bool c] w fun e w' => e = .returned (.int .u64 (c.toNat : Nat)) ∧ w' = w := by
  cases c
  · go_enter Tryd.func57, Tryd.ntmps57
    go_wp2
    go_ret
    exact ⟨rfl, rfl⟩
  · go_enter Tryd.func57, Tryd.ntmps57
    go_wp2
    go_ret
    exact ⟨rfl, rfl⟩

theorem count_c (n : Int) (w : World) : Calls Tryd.prog 61 #[.int .i64 n] w fun e w' => e = .returned (.int .u64 (clamp n 64 : Nat)) ∧ w' = w := by
  go_enter Tryd.func61, Tryd.ntmps61
  go_wp2
  go_ret
  exact ⟨ret1 (vint (by unfold clamp; omega)), rfl⟩

theorem add_c (a b : Nat) (c : Bool) (w : World) (ha : a < 18446744073709551616) (hb : b < 18446744073709551616) :
    Calls Tryd.prog 58 #[.int .u64 a, .int .u64 b, .bool c] w fun e w' => e = .returned (.tuple #[.int .u64 (addv a b c : Nat), .bool (addc a b c)]) ∧ w' = w := by
  have e1 := Lib.hid (addv_int a b c)
  by_cases hlt : IntKind.u64.wrap ((a : Int) + b) < a
  · have e2 := Lib.hid (addc_lt a b c ha hb hlt)
    clear ha hb
    go_enter Tryd.func58, Tryd.ntmps58
    go_wp2_with (go_at_call 57; refine (one_c _ _).mono ?_; rintro e w' ⟨rfl, rfl⟩)
    go_ret2
    rw [e2.out, ← e1.out]
    exact ⟨rfl, rfl⟩
  · have hle := Int.not_lt.1 hlt
    have hltb : decide (IntKind.u64.wrap ((a : Int) + b) < a) = false := decide_eq_false hlt
    cases c
    · have e2 := Lib.hid (addc_f a b ha hb hle)
      clear ha hb hlt
      go_enter Tryd.func58, Tryd.ntmps58
      go_wp2_with (go_at_call 57; refine (one_c _ _).mono ?_; rintro e w' ⟨rfl, rfl⟩)
      go_ret2
      rw [e2.out, ← e1.out]
      exact ⟨by simp, rfl⟩
    · have e2 := Lib.hid (addc_t a b ha hb hle)
      clear ha hb hlt
      go_enter Tryd.func58, Tryd.ntmps58
      go_wp2_with (go_at_call 57; refine (one_c _ _).mono ?_; rintro e w' ⟨rfl, rfl⟩)
      go_ret2
      rw [e2.out]
      refine ⟨ret2 (vint e1.out) (vbool ?_), rfl⟩
      show (IntKind.u64.wrap (IntKind.u64.wrap ((a : Int) + b) + (true.toNat : Nat)) == 0) = _
      rw [e1.out]
      rw [Bool.eq_iff_iff]; simp only [beq_iff_eq]; omega

theorem sub_c (a b : Nat) (c : Bool) (w : World) (ha : a < 18446744073709551616) (hb : b < 18446744073709551616) :
    Calls Tryd.prog 47 #[.int .u64 a, .int .u64 b, .bool c] w fun e w' => e = .returned (.tuple #[.int .u64 (subv a b c : Nat), .bool (subc a b c)]) ∧ w' = w := by
  have e1 := Lib.hid (subv_int a b c hb)
  by_cases hlt : a < b
  · have e2 := Lib.hid (show subc a b c = true by unfold subc; rw [decide_eq_true_eq]; omega)
    have hltb : decide (a < b) = true := decide_eq_true hlt
    clear ha hb
    go_enter Tryd.func47, Tryd.ntmps47
    go_wp2_with (go_at_call 57; refine (one_c _ _).mono ?_; rintro e w' ⟨rfl, rfl⟩)
    go_ret2
    rw [e2.out]
    exact ⟨ret2 (vint e1.out) rfl, rfl⟩
  · have hltb : decide (a < b) = false := decide_eq_false hlt
    by_cases heq : a = b
    · subst heq
      have e2 := Lib.hid (show subc a a c = c by unfold subc; cases c <;> simp)
      clear ha hb
      go_enter Tryd.func47, Tryd.ntmps47
      go_wp2_with (go_at_call 57; refine (one_c _ _).mono ?_; rintro e w' ⟨rfl, rfl⟩)
      go_ret2
      rw [e2.out]
      refine ⟨ret2 (vint ?_) (vbool ?_), rfl⟩
      · rw [← e1.out]; simp; rw [IntKind.wrap_u64, IntKind.wrap_u64, IntKind.wrap_u64]; omega
      · simp
    · have heqb : ((a : Int) == (b : Int)) = false := by rw [beq_eq_false_iff_ne]; omega
      have e2 := Lib.hid (show subc a b c = false by unfold subc; rw [decide_eq_false_iff_not]; cases c <;> simp <;> omega)
      clear ha hb
      go_enter Tryd.func47, Tryd.ntmps47
      go_wp2_with (go_at_call 57; refine (one_c _ _).mono ?_; rintro e w' ⟨rfl, rfl⟩)
      go_ret2
      rw [e2.out]
      exact ⟨ret2 (vint e1.out) rfl, rfl⟩

theorem mul64_c (a b : Nat) (w : World) (ha : a < 18446744073709551616) (hb : b < 18446744073709551616) :
    Calls Tryd.prog 62 #[.int .u64 a, .int .u64 b] w fun e w' => e = .returned (.tuple #[.int .u64 (mulh a b : Nat), .int .u64 (mull a b : Nat)]) ∧ w' = w := by
  have hA := Lib.hid ha
  have hB := Lib.hid hb
  clear ha hb
  go_enter Tryd.func62, Tryd.ntmps62
  go_wp2
  go_ret2
  refine ⟨ret2 (vint ?_) (vint ?_), rfl⟩
  · simp only [and_mask32, IntKind.wrap_u64, mulh]
    have := mul64_arith a b (by omega) (by have := hA.out; omega) (by omega) (by have := hB.out; omega)
    rw [this]
    simp
  · rw [IntKind.wrap_u64]; unfold mull; simp

theorem len_c (a : Nat) (w : World) (ha : a < 18446744073709551616) :
    Calls Tryd.prog 45 #[.int .u64 a] w fun e w' => e = .returned (.int .i64 (Lib.bitLen a : Nat)) ∧ w' = w := by
  have c1 := Lib.hid ha
  clear ha
  go_enter Tryd.func45, Tryd.ntmps45
  go_wp2_with (go_at_call 56; refine (len64_c _ _ c1.out).mono ?_; rintro e w' ⟨rfl, rfl⟩)
  go_ret
  exact ⟨rfl, rfl⟩
theorem mul_c (a b : Nat) (w : World) (ha : a < 18446744073709551616) (hb : b < 18446744073709551616) :
    Calls Tryd.prog 59 #[.int .u64 a, .int .u64 b] w fun e w' => e = .returned (.tuple #[.int .u64 (mulh a b : Nat), .int .u64 (mull a b : Nat)]) ∧ w' = w := by
  have c1 := Lib.hid ha
  have c2 := Lib.hid hb
  clear ha hb
  go_enter Tryd.func59, Tryd.ntmps59
  go_wp2_with (go_at_call 62; refine (mul64_c _ _ _ c1.out c2.out).mono ?_; rintro e w' ⟨rfl, rfl⟩)
  go_ret2
  exact ⟨rfl, rfl⟩

theorem mask_c (n : Int) (w : World) :
    Calls Tryd.prog 55 #[.int .i64 n] w fun e w' => e = .returned (.int .u64 (2 ^ clamp n 64 - 1 : Nat)) ∧ w' = w := by
  have hc := clamp_le n 64
  obtain ⟨m, hm⟩ : ∃ m : Nat, clamp n 64 = m := ⟨_, rfl⟩
  have H := Lib.hid hm
  rw [hm] at hc ⊢
  clear hm
  go_enter Tryd.func55, Tryd.ntmps55
  go_wp2_with (go_at_call 61; refine (count_c _ _).mono ?_; rw [H.out]; rintro e w' ⟨rfl, rfl⟩)
  go_ret
  refine ⟨ret1 (vint ?_), rfl⟩
  exact mask_int m hc

end Go.Proofs.YtlpgflmjpdhpnaaDoor
