/- math/bits.TrailingZeros64 and the functions Low over it: the table in its variable. -/
import Derived.Test.YtlpgflmjpdhpnaaDoorRows
import Derived.Test.YtlpgflmjpdhpnaaDoorM
import Derived.Test.YtlpgflmjpdhpnaaDoorR
import Derived.Laws.Bits64b
import Derived.Lib.TrailingZeros
import Derived.Deep.RegionHeld
namespace Go.Proofs.YtlpgflmjpdhpnaaDoor
open Go.RowKit
set_option maxHeartbeats 4000000
set_option maxRecDepth 100000
set_option linter.unusedVariables false
set_option linter.unusedSimpArgs false
/-- the table of math/bits in its variable -/
def Tab (w : World) : Prop := ∀ j, j < 64 → w.cell? ⟨0, j, none⟩ = some (.int .u8 (Lib.deBruijn64tab.getD j 0))
theorem Tab.lt {w : World} (h : Tab w) : 0 < w.heap.size := World.block_lt_of_cell? w _ (h 0 (by decide))
theorem Tab.below {w w' : World} (h : Tab w) (hb : Below w.heap.size w w') : Tab w' := fun j hj => (hb.cell (p := ⟨_, j, none⟩) h.lt).trans (h j hj)
theorem Tab.below0 {w0 w' : World} (h : Tab w0) (hb : Below w0.heap.size w0 w') : Tab w' := h.below hb
/-- the first bit that is set, below n; n: none is -/
def LowOf (x n k : Nat) : Prop := (∀ j, j < k → x.testBit j = false) ∧ k ≤ n ∧ (k < n → x.testBit k = true)
theorem LowOf.unique {x n k m : Nat} (h : LowOf x n k) (h' : LowOf x n m) : k = m := by
  rcases Nat.lt_trichotomy k m with hl | hl | hl
  · have h1 := h'.1 k hl
    have h2 := h.2.2 (Nat.lt_of_lt_of_le hl h'.2.1)
    rw [h1] at h2; cases h2
  · exact hl
  · have h1 := h.1 m hl
    have h2 := h'.2.2 (Nat.lt_of_lt_of_le hl h.2.1)
    rw [h1] at h2; cases h2
theorem ctz_low {n x : Nat} (hx : x < 2 ^ n) : LowOf x n (Lib.ctz n x) := by
  by_cases h0 : x = 0
  · subst h0
    have e : Lib.ctz n 0 = n := if_pos rfl
    rw [e]
    exact ⟨fun j _ => Nat.zero_testBit j, Nat.le_refl _, fun h => absurd h (Nat.lt_irrefl _)⟩
  · have e : Lib.ctz n x = Lib.ctzFrom n x := if_neg h0
    obtain ⟨m, hm, hlt⟩ := Lib.ctzFrom_spec n x (Nat.pos_of_ne_zero h0) hx
    rw [e]
    generalize Lib.ctzFrom n x = k at *
    have ht : ∀ j, x.testBit j = (decide (k ≤ j) && (2 * m + 1).testBit (j - k)) := fun j => by rw [hm, Nat.mul_comm, Nat.testBit_mul_two_pow]
    refine ⟨fun j hj => ?_, Nat.le_of_lt hlt, fun _ => ?_⟩
    · rw [ht, decide_eq_false (by omega), Bool.false_and]
    · rw [ht, decide_eq_true (Nat.le_refl k), Bool.true_and, Nat.sub_self, Nat.testBit_zero]
      exact decide_eq_true (by omega)
theorem tz_key (x a : Nat) (hx : x < 18446744073709551616) (hx0 : x ≠ 0) (hlow : x &&& (18446744073709551616 - x) = a) :
    IntKind.u64.wrap (bits BinOp.and IntKind.u64 (x : Int) (IntKind.u64.wrap (-(x : Int))) * 285870213051353865) / 288230376151711744 = ((a * 285870213051353865 % 18446744073709551616 / 288230376151711744 : Nat) : Int) := by
  have e1 : IntKind.u64.wrap (-(x : Int)) = ((18446744073709551616 - x : Nat) : Int) := by rw [IntKind.wrap_u64]; omega
  rw [e1, and_nat x _ hx (by omega), hlow, IntKind.wrap_u64]
  omega
theorem tz_core (x k idx : Nat) (w : World) (hx0 : ((x : Int) == 0) = false)
    (key : IntKind.u64.wrap (bits BinOp.and IntKind.u64 (x : Int) (IntKind.u64.wrap (-(x : Int))) * 285870213051353865) / 288230376151711744 = (idx : Int))
    (hi : idx < 64) (hk : k < 64) (hcell : w.cell? ⟨0, idx, none⟩ = some (.int .u8 k)) :
    Calls Tryd.prog 60 #[.int .u64 x] w fun e w' => e = .returned (.int .i64 k) ∧ w' = w := by
  go_enter Tryd.func60, Tryd.ntmps60
  go_wp2_with (simp only [key])
  go_ret
  exact ⟨rfl, rfl⟩
theorem tz64_c (x : Nat) (w : World) (hx : x < 18446744073709551616) (hT : Tab w) : Calls Tryd.prog 60 #[.int .u64 (x : Nat)] w fun e w' => e = .returned (.int .i64 (Lib.ctz 64 x : Nat)) ∧ w' = w := by
  by_cases h0 : x = 0
  · subst h0
    show Calls _ _ #[.int .u64 0] _ _
    go_enter Tryd.func60, Tryd.ntmps60
    go_wp2
    go_ret
    exact ⟨rfl, rfl⟩
  · obtain ⟨hlow, hk⟩ := Lib.lowest_bit 64 x h0 hx
    obtain ⟨hi, htab⟩ := Lib.deBruijn64_at _ hk
    have hc := hT _ hi
    rw [htab] at hc
    exact tz_core x _ _ w (by rw [beq_eq_false_iff_ne]; omega) (tz_key x _ hx h0 hlow) hi hk hc
theorem low_c (x : Nat) (w : World) (hx : x < 18446744073709551616) (hT : Tab w) : Calls Tryd.prog 52 #[.int .u64 (x : Nat)] w fun e w' => e = .returned (.int .i64 (Lib.ctz 64 x : Nat)) ∧ w' = w := by
  have C : Hid (Calls Tryd.prog 60 #[.int .u64 (x : Nat)] w fun e w' => e = .returned (.int .i64 (Lib.ctz 64 x : Nat)) ∧ w' = w) := Lib.hid (tz64_c x w hx hT)
  clear hx hT
  go_enter Tryd.func52, Tryd.ntmps52
  go_wp2_with (go_at_call 60; (with_reducible refine C.out.mono ?_); rintro e w' ⟨rfl, rfl⟩)
  go_ret
  exact ⟨rfl, rfl⟩
theorem rlow_c (x : Nat) (w : World) (hx : x < 18446744073709551616) : Calls Tryd.prog 53 #[.int .u64 (x : Nat)] w fun e w' => e = .returned (.int .i64 (Lib.ctz 64 x : Nat)) ∧ w' = w := by
  have HL := Lib.hid (ctz_low (n := 64) (x := x) (show x < 2 ^ 64 from hx))
  clear hx
  go_enter Tryd.func53, Tryd.ntmps53
  go_wp2
  go_loop [3] (fun i => ∃ k : Nat, k ≤ 64 ∧ i = .int .i64 k ∧ Hid (∀ j, j < k → x.testBit j = false)) (fun i => 64 - (intOf i).toNat)
  case atStart => exact ⟨0, by omega, rfl, Lib.hid (fun j hj => by omega)⟩
  case round =>
    obtain ⟨k, hk, rfl, HA⟩ := hrel
    by_cases hlt : k < 64
    · cases hb : x.testBit k with
      | false =>
        have C : Hid (∀ W, Calls Tryd.prog 54 #[.int .u64 (x : Nat), .int .i64 (k : Nat)] W fun e w' => e = .returned (.bool false) ∧ w' = W) := Lib.hid fun W => by have := bit_c x k W hlt; rwa [hb] at this
        have HA2 : Hid (∀ j, j < k + 1 → x.testBit j = false) := Lib.hid (fun j hj => by
          by_cases e : j = k
          · rw [e]; exact hb
          · exact HA.out j (by omega))
        clear hb HA
        go_wp2_with (go_at_call 54; (with_reducible refine (C.out _).mono ?_); rintro e w' ⟨rfl, rfl⟩)
        go_round
        case rel => exact ⟨k + 1, by omega, by go_num, HA2⟩
        case measure => (simp [intOf]; try omega)
      | true =>
        have C : Hid (∀ W, Calls Tryd.prog 54 #[.int .u64 (x : Nat), .int .i64 (k : Nat)] W fun e w' => e = .returned (.bool true) ∧ w' = W) := Lib.hid fun W => by have := bit_c x k W hlt; rwa [hb] at this
        have HE : Hid (Lib.ctz 64 x = k) := Lib.hid (HL.out.unique ⟨HA.out, hk, fun _ => hb⟩)
        clear hb HA HL
        go_wp2_with (go_at_call 54; (with_reducible refine (C.out _).mono ?_); rintro e w' ⟨rfl, rfl⟩)
        go_ret
        exact ⟨ret1 (by rw [HE.out]; try rfl), rfl⟩
    · obtain rfl : k = 64 := by omega
      have HE : Hid (Lib.ctz 64 x = 64) := Lib.hid (HL.out.unique ⟨HA.out, Nat.le_refl _, fun h => absurd h (Nat.lt_irrefl _)⟩)
      clear HA HL hlt
      go_wp2
      go_ret
      exact ⟨ret1 (by rw [HE.out]; try rfl), rfl⟩
end Go.Proofs.YtlpgflmjpdhpnaaDoor
