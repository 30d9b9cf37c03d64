/- Contracts of wide.count, abacusref02.Count, wide.Bit, abacusref02.Bit. -/
import Derived.Test.YtlpgflmjpdhpnaaDoorRows
import Derived.Test.YtlpgflmjpdhpnaaDoorE
import Derived.Test.YtlpgflmjpdhpnaaDoorR
import Derived.Test.YtlpgflmjpdhpnaaDoorB
namespace Go.Proofs.YtlpgflmjpdhpnaaDoor
open Go.RowKit
set_option maxHeartbeats 4000000
set_option maxRecDepth 100000
set_option linter.unusedVariables false
set_option linter.unusedSimpArgs false
theorem wcount_c (n : Int) (w : World) : Calls Tryd.prog 46 #[.int .i64 n] w fun e w' => e = .returned (.int .i64 (clamp n 384 : Nat)) ∧ w' = w := by
  go_enter Tryd.func46, Tryd.ntmps46
  go_wp2
  go_ret
  exact ⟨ret1 (vint (by unfold clamp; omega)), rfl⟩
theorem rcount2_c (n : Int) (w : World) : Calls Tryd.prog 48 #[.int .i64 n] w fun e w' => e = .returned (.int .i64 (clamp n 384 : Nat)) ∧ w' = w := by
  by_cases h1 : n < 0
  · have e := Lib.hid (clamp_neg n 384 h1)
    go_enter Tryd.func48, Tryd.ntmps48
    go_wp2
    go_ret
    exact ⟨ret1 (by rw [e.out]; rfl), rfl⟩
  · by_cases h2 : 384 < n
    · have e := Lib.hid (clamp_big n 384 h2)
      go_enter Tryd.func48, Tryd.ntmps48
      go_wp2
      go_ret
      exact ⟨ret1 (by rw [e.out]; rfl), rfl⟩
    · have e := Lib.hid (clamp_of n 384 (by omega) (by omega))
      go_enter Tryd.func48, Tryd.ntmps48
      go_wp2
      go_ret
      exact ⟨ret1 (vint (by rw [e.out]; omega)), rfl⟩
/-- is bit i of A set? (of any i) -/
def bitW (A : Nat) (i : Int) : Bool := decide (0 ≤ i) && decide (i < 384) && A.testBit i.toNat
theorem bitW_nat (A i : Nat) (h : i < 384) : bitW A i = A.testBit i := by
  unfold bitW
  rw [decide_eq_true (by omega), decide_eq_true (by omega)]; simp
theorem bitW_neg (A : Nat) (i : Int) (h : i < 0) : bitW A i = false := by
  unfold bitW; rw [decide_eq_false (by omega)]; rfl
theorem bitW_big (A : Nat) (i : Int) (h : 384 ≤ i) : bitW A i = false := by
  unfold bitW; rw [decide_eq_false (by omega : ¬ i < 384)]; simp
theorem wbit_c (A : Nat) (i : Int) (w : World) : Calls Tryd.prog 33 #[.agg (wv A), .int .i64 i] w fun e w' => e = .returned (.bool (bitW A i)) ∧ Below w.heap.size w w' := by
  by_cases h1 : i < 0
  · have e := Lib.hid (bitW_neg A i h1)
    have h1' : ¬ (0 ≤ i) := by omega
    go_enter Tryd.func33, Tryd.ntmps33
    go_wp2
    go_ret
    exact ⟨ret1 (by rw [e.out]; try rfl), (Below.refl _ _).alloc (Nat.le_refl _) _⟩
  · by_cases h2 : i < 384
    · obtain ⟨j, rfl⟩ := Int.eq_ofNat_of_zero_le (by omega : 0 ≤ i)
      have hj : j < 384 := by omega
      have e := Lib.hid (bitW_nat A j hj)
      have c1 : (w.alloc (.cells (wv A) 24)).cell? ⟨w.heap.size, j / 64, none⟩ = some (.int .u64 (limb A (j / 64) : Nat)) := ((Blk.new w (wv A) 24).cell _).trans (wv_get _ _ (by omega))
      have f1 := bit_eq (limb A (j / 64)) (j % 64)
      rw [← bit_limb] at f1
      have h0 : (0 : Int) ≤ (j : Int) := by omega
      have F := Lib.hid f1
      clear f1 h1
      go_enter Tryd.func33, Tryd.ntmps33
      go_wp2
      go_ret
      exact ⟨ret1 (by rw [e.out, ← F.out]; try rfl), (Below.refl _ _).alloc (Nat.le_refl _) _⟩
    · have e := Lib.hid (bitW_big A i (by omega))
      have h0 : (0 : Int) ≤ i := by omega
      clear h1
      go_enter Tryd.func33, Tryd.ntmps33
      go_wp2
      go_ret
      exact ⟨ret1 (by rw [e.out]; try rfl), (Below.refl _ _).alloc (Nat.le_refl _) _⟩
theorem rbit2_c (A : Nat) (i : Int) (w : World) : Calls Tryd.prog 34 #[.agg (wv A), .int .i64 i] w fun e w' => e = .returned (.bool (bitW A i)) ∧ Below w.heap.size w w' := by
  by_cases h1 : i < 0
  · have e := Lib.hid (bitW_neg A i h1)
    have h1' : ¬ (0 ≤ i) := by omega
    go_enter Tryd.func34, Tryd.ntmps34
    go_wp2
    go_ret
    exact ⟨ret1 (by rw [e.out]; try rfl), (Below.refl _ _).alloc (Nat.le_refl _) _⟩
  · by_cases h2 : i < 384
    · obtain ⟨j, rfl⟩ := Int.eq_ofNat_of_zero_le (by omega : 0 ≤ i)
      have hj : j < 384 := by omega
      have e := Lib.hid (bitW_nat A j hj)
      have c1 : (w.alloc (.cells (wv A) 24)).cell? ⟨w.heap.size, j / 64, none⟩ = some (.int .u64 (limb A (j / 64) : Nat)) := ((Blk.new w (wv A) 24).cell _).trans (wv_get _ _ (by omega))
      have C : Hid (∀ W, Calls Tryd.prog 54 #[.int .u64 (limb A (j / 64) : Nat), .int .i64 ((j : Int) % 64)] W fun e w' => e = .returned (.bool (A.testBit j)) ∧ w' = W) := Lib.hid fun W => by
        rw [bit_limb, show ((j : Int) % 64) = ((j % 64 : Nat) : Int) by omega]; exact bit_c _ _ W (Nat.mod_lt _ (by decide))
      have h0 : (0 : Int) ≤ (j : Int) := by omega
      clear h1
      go_enter Tryd.func34, Tryd.ntmps34
      go_wp2_with (go_at_call 54; (with_reducible refine (C.out _).mono ?_); rintro e w' ⟨rfl, rfl⟩)
      go_ret
      exact ⟨ret1 (by rw [e.out]; try rfl), (Below.refl _ _).alloc (Nat.le_refl _) _⟩
    · have e := Lib.hid (bitW_big A i (by omega))
      have h0 : (0 : Int) ≤ i := by omega
      clear h1
      go_enter Tryd.func34, Tryd.ntmps34
      go_wp2
      go_ret
      exact ⟨ret1 (by rw [e.out]; try rfl), (Below.refl _ _).alloc (Nat.le_refl _) _⟩
end Go.Proofs.YtlpgflmjpdhpnaaDoor
