/- The law WordGo returns true for any two words. -/
import Derived.Test.YtojoocfnbkgdnaaA
namespace Go.Proofs.Ytojoocfnbkgdnaa
open Go.RowKit
set_option maxHeartbeats 4000000
set_option maxRecDepth 100000
set_option linter.unusedVariables false
theorem go_add (a b : Nat) : IntKind.u64.wrap ((a : Int) + b) = ((addv a b false : Nat) : Int) := by
  have := addv_int a b false
  simp only [Bool.toNat_false] at this
  rw [IntKind.wrap_u64, IntKind.wrap_u64] at this
  rw [← this, IntKind.wrap_u64]; omega
theorem go_sub (a b : Nat) (hb : b < 18446744073709551616) : IntKind.u64.wrap ((a : Int) - b) = ((subv a b false : Nat) : Int) := by
  have := subv_int a b false hb
  simp only [Bool.toNat_false] at this
  rw [IntKind.wrap_u64, IntKind.wrap_u64] at this
  rw [← this, IntKind.wrap_u64]; omega
theorem go_mul (a b : Nat) : IntKind.u64.wrap ((a : Int) * b) = ((mull a b : Nat) : Int) := by
  rw [IntKind.wrap_u64]; unfold mull; simp
theorem go_addc (a b : Nat) (ha : a < 18446744073709551616) (hb : b < 18446744073709551616) : addc a b false = decide ((addv a b false : Nat) < a) := by
  unfold addc addv
  rw [Bool.eq_iff_iff]; simp only [Bool.toNat_false, decide_eq_true_eq]; omega
theorem go_subc (a b : Nat) : subc a b false = decide (a < b) := by
  unfold subc; simp
theorem walk_WordGo (a b : Int) (w0 : (Lit.int .u64 a).wf = true) (w1 : (Lit.int .u64 b).wf = true) (w : World) :
    Calls Try.prog 5 #[.int .u64 a, .int .u64 b] w fun e w' => e = .returned (.bool true) ∧ Below w.heap.size w w' := by
  obtain ⟨a, rfl, ha⟩ := nat_u64 w0
  obtain ⟨b, rfl, hb⟩ := nat_u64 w1
  have hA := Lib.hid ha
  have hB := Lib.hid hb
  have e1 := go_add a b
  have e2 := go_sub a b hb
  have e3 := go_mul a b
  have e4 := go_addc a b ha hb
  have e5 := go_subc a b
  clear ha hb w0 w1
  go_enter Try.func5, Try.ntmps5
  go_wp2_with (first
    | (go_at_call 13; (with_reducible refine (add_c a b false _ hA.out hB.out).mono ?_); rintro e w' ⟨rfl, rfl⟩)
    | (go_at_call 15; (with_reducible refine (sub_c a b false _ hA.out hB.out).mono ?_); rintro e w' ⟨rfl, rfl⟩)
    | (go_at_call 10; (with_reducible refine (mul_c a b _ hA.out hB.out).mono ?_); rintro e w' ⟨rfl, rfl⟩)
    | (go_at_call 12; (with_reducible refine (alive_c _).mono ?_); rintro e w' ⟨rfl, rfl⟩))
  go_ret
  exact ⟨rfl, Below.refl _ _⟩
end Go.Proofs.Ytojoocfnbkgdnaa
