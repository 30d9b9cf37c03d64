/- Contracts of the functions of package abacusref01. -/
import Derived.Test.YtlpgflmjpdhpnaaW
import Derived.LoopTactic
namespace Go.Proofs.Ytlpgflmjpdhpnaa
open Go.RowKit
set_option maxHeartbeats 4000000
set_option maxRecDepth 100000
set_option linter.unusedVariables false
set_option linter.unusedSimpArgs false

theorem bit_c (a i : Nat) (w : World) (hi : i < 64) : Calls Try.prog 58 #[.int .u64 a, .int .i64 i] w fun e w' => e = .returned (.bool (a.testBit i)) ∧ w' = w := by
  have e1 := Lib.hid (bit_eq a i)
  go_enter Try.func58, Try.ntmps58
  go_wp2
  go_ret
  exact ⟨ret1 (vbool e1.out), rfl⟩

theorem radd_c (a b : Nat) (c : Bool) (w : World) (ha : a < 18446744073709551616) (hb : b < 18446744073709551616) :
    Calls Try.prog 50 #[.int .u64 a, .int .u64 b, .bool c] w fun e w' => e = .returned (.tuple #[.int .u64 (addv a b c : Nat), .bool (addc a b c)]) ∧ w' = w := by
  have hA := Lib.hid ha
  have hB := Lib.hid hb
  clear ha hb
  go_enter Try.func50, Try.ntmps50
  go_wp2
  go_loop [2, 8, 9] (fun v s i => ∃ (k m : Nat) (cr : Bool), k ≤ 64 ∧ i = .int .i64 k ∧ s = .int .u64 m ∧ v = .bool cr ∧ Hid (SumI a b c k m cr)) (fun _ _ i => 64 - (intOf i).toNat)
  case atStart => exact ⟨0, 0, c, by omega, rfl, rfl, rfl, Lib.hid (SumI.start a b c)⟩
  case round =>
    obtain ⟨k, m, cr, hk, rfl, rfl, rfl, HI⟩ := hrel
    by_cases hlt : k < 64
    · obtain ⟨x, hx⟩ : ∃ x, a.testBit k = x := ⟨_, rfl⟩
      obtain ⟨y, hy⟩ : ∃ y, b.testBit k = y := ⟨_, rfl⟩
      have HS := Lib.hid (HI.out.step hx hy)
      have HO := Lib.hid (or_top m k hlt HI.out.1)
      have HX := Lib.hid hx
      have HY := Lib.hid hy
      clear hx hy HI
      cases x <;> cases y <;> cases cr <;>
      · go_wp2_with (first
          | (go_at_call 58; (with_reducible refine (bit_c a k _ hlt).mono ?_); rw [HX.out]; rintro e w' ⟨rfl, rfl⟩)
          | (go_at_call 58; (with_reducible refine (bit_c b k _ hlt).mono ?_); rw [HY.out]; rintro e w' ⟨rfl, rfl⟩))
        go_round
        case rel => exact ⟨k + 1, _, _, by omega, by go_num, by first | rfl | exact vint HO.out, by first | rfl, HS⟩
        case measure => (simp [intOf]; try omega)
    · obtain rfl : k = 64 := by omega
      go_wp2
      go_ret2
      obtain ⟨e1, e2⟩ := HI.out.done hA.out hB.out
      exact ⟨ret2 (vint (by rw [e1])) (vbool e2), rfl⟩
theorem rsub_c (a b : Nat) (c : Bool) (w : World) (ha : a < 18446744073709551616) (hb : b < 18446744073709551616) :
    Calls Try.prog 52 #[.int .u64 a, .int .u64 b, .bool c] w fun e w' => e = .returned (.tuple #[.int .u64 (subv a b c : Nat), .bool (subc a b c)]) ∧ w' = w := by
  have hA := Lib.hid ha
  have hB := Lib.hid hb
  clear ha hb
  go_enter Try.func52, Try.ntmps52
  go_wp2
  go_loop [2, 8, 9] (fun v s i => ∃ (k m : Nat) (cr : Bool), k ≤ 64 ∧ i = .int .i64 k ∧ s = .int .u64 m ∧ v = .bool cr ∧ Hid (DifI a b c k m cr)) (fun _ _ i => 64 - (intOf i).toNat)
  case atStart => exact ⟨0, 0, c, by omega, rfl, rfl, rfl, Lib.hid (DifI.start a b c)⟩
  case round =>
    obtain ⟨k, m, cr, hk, rfl, rfl, rfl, HI⟩ := hrel
    by_cases hlt : k < 64
    · obtain ⟨x, hx⟩ : ∃ x, a.testBit k = x := ⟨_, rfl⟩
      obtain ⟨y, hy⟩ : ∃ y, b.testBit k = y := ⟨_, rfl⟩
      have HS := Lib.hid (HI.out.step hx hy)
      have HO := Lib.hid (or_top m k hlt HI.out.1)
      have HX := Lib.hid hx
      have HY := Lib.hid hy
      clear hx hy HI
      cases x <;> cases y <;> cases cr <;>
      · go_wp2_with (first
          | (go_at_call 58; (with_reducible refine (bit_c a k _ hlt).mono ?_); rw [HX.out]; rintro e w' ⟨rfl, rfl⟩)
          | (go_at_call 58; (with_reducible refine (bit_c b k _ hlt).mono ?_); rw [HY.out]; rintro e w' ⟨rfl, rfl⟩))
        go_round
        case rel => exact ⟨k + 1, _, _, by omega, by go_num, by first | rfl | exact vint HO.out, by first | rfl, HS⟩
        case measure => (simp [intOf]; try omega)
    · obtain rfl : k = 64 := by omega
      go_wp2
      go_ret2
      obtain ⟨e1, e2⟩ := HI.out.done hA.out hB.out
      exact ⟨ret2 (vint (by rw [e1])) (vbool e2), rfl⟩

theorem rmul_c (a b : Nat) (w : World) (ha : a < 18446744073709551616) (hb : b < 18446744073709551616) :
    Calls Try.prog 42 #[.int .u64 a, .int .u64 b] w fun e w' => e = .returned (.tuple #[.int .u64 (mulh a b : Nat), .int .u64 (mull a b : Nat)]) ∧ w' = w := by
  have hA := Lib.hid ha
  have hB := Lib.hid hb
  have hst := Lib.hid (MulI.start a b hb)
  clear ha hb
  go_enter Try.func42, Try.ntmps42
  go_wp2
  go_loop [6, 7, 8] (fun h l i => ∃ (z : Int) (hi lo : Nat), -1 ≤ z ∧ z ≤ 63 ∧ i = .int .i64 z ∧ h = .int .u64 hi ∧ l = .int .u64 lo ∧ Hid (MulI a b (z + 1).toNat hi lo)) (fun _ _ i => (intOf i + 1).toNat)
  case atStart => exact ⟨63, 0, 0, by omega, by omega, rfl, rfl, rfl, hst⟩
  case round =>
    obtain ⟨z, hi, lo, hz1, hz2, rfl, rfl, rfl, HI⟩ := hrel
    by_cases hlt : 0 ≤ z
    · obtain ⟨k, rfl⟩ := Int.eq_ofNat_of_zero_le hlt
      have hk : k < 64 := by omega
      have HI' : Hid (MulI a b (k + 1) hi lo) := Lib.hid (by have := HI.out; rwa [show ((k : Int) + 1).toNat = k + 1 by omega] at this)
      obtain ⟨x, hx⟩ : ∃ x, b.testBit k = x := ⟨_, rfl⟩
      have HS := Lib.hid (HI'.out.step hA.out hB.out hx)
      have HX := Lib.hid hx
      obtain ⟨h1, e1⟩ : ∃ h1 : Nat, (2 * hi + lo / 9223372036854775808) % 18446744073709551616 = h1 := ⟨_, rfl⟩
      obtain ⟨l1, e2⟩ : ∃ l1 : Nat, 2 * lo % 18446744073709551616 = l1 := ⟨_, rfl⟩
      have f1 := shl1_or hi lo HI'.out.2.1
      have f2 := shl1 lo
      have hl1 := Lib.hid (show l1 < 18446744073709551616 by omega)
      rw [e1] at f1 HS
      rw [e2] at f2 HS
      clear e1 e2 hx HI HI'
      cases x
      · go_wp2_with (first
          | (go_at_call 58; (with_reducible refine (bit_c b k _ hk).mono ?_); rw [HX.out]; rintro e w' ⟨rfl, rfl⟩)
          | (go_at_call 50; (with_reducible refine (radd_c l1 a false _ hl1.out hA.out).mono ?_); rintro e w' ⟨rfl, rfl⟩))
        go_round
        case rel => exact ⟨k - 1, _, _, by omega, by omega, by go_num, rfl, rfl, Lib.hid (by have := HS.out; rw [show ((k : Int) - 1 + 1).toNat = k by omega]; simpa using this)⟩
        case measure => (simp [intOf]; try omega)
      · cases hc : addc l1 a false
        · have HS2 : Hid (MulI a b k h1 (addv l1 a false)) := Lib.hid (by have := HS.out; rw [hc] at this; simpa using this)
          clear HS
          go_wp2_with (first
            | (go_at_call 58; (with_reducible refine (bit_c b k _ hk).mono ?_); rw [HX.out]; rintro e w' ⟨rfl, rfl⟩)
            | (go_at_call 50; (with_reducible refine (radd_c l1 a false _ hl1.out hA.out).mono ?_); rintro e w' ⟨rfl, rfl⟩))
          go_round
          case rel => exact ⟨k - 1, _, _, by omega, by omega, by go_num, rfl, rfl, Lib.hid (by have := HS2.out; rwa [show ((k : Int) - 1 + 1).toNat = k by omega])⟩
          case measure => (simp [intOf]; try omega)
        · have HS2 : Hid (MulI a b k (h1 + 1) (addv l1 a false)) := Lib.hid (by have := HS.out; rw [hc] at this; simpa using this)
          have e3 := Lib.hid (wrap_lt (h1 + 1) HS2.out.1)
          clear HS
          go_wp2_with (first
            | (go_at_call 58; (with_reducible refine (bit_c b k _ hk).mono ?_); rw [HX.out]; rintro e w' ⟨rfl, rfl⟩)
            | (go_at_call 50; (with_reducible refine (radd_c l1 a false _ hl1.out hA.out).mono ?_); rintro e w' ⟨rfl, rfl⟩))
          go_round
          case rel => exact ⟨k - 1, h1 + 1, _, by omega, by omega, by go_num, vint e3.out, rfl, Lib.hid (by have := HS2.out; rwa [show ((k : Int) - 1 + 1).toNat = k by omega])⟩
          case measure => (simp [intOf]; try omega)
    · obtain rfl : z = -1 := by omega
      go_wp2
      go_ret2
      obtain ⟨e1, e2⟩ := MulI.done HI.out
      exact ⟨ret2 (vint (by rw [e1])) (vint (by rw [e2])), rfl⟩
theorem rlen_c (a : Nat) (w : World) (ha : a < 18446744073709551616) :
    Calls Try.prog 61 #[.int .u64 a] w fun e w' => e = .returned (.int .i64 (Lib.bitLen a : Nat)) ∧ w' = w := by
  have hA := Lib.hid ha
  clear ha
  go_enter Try.func61, Try.ntmps61
  go_wp2
  go_loop [3, 4] (fun n i => ∃ (k l : Nat), k ≤ 64 ∧ l ≤ k ∧ i = .int .i64 k ∧ n = .int .i64 l ∧ Hid (LenOf (a % 2 ^ k) l)) (fun _ i => 64 - (intOf i).toNat)
  case atStart => exact ⟨0, 0, by omega, by omega, rfl, rfl, Lib.hid (by rw [Nat.pow_zero, Nat.mod_one]; exact LenOf.zero)⟩
  case round =>
    obtain ⟨k, l, hk, hl, rfl, rfl, HI⟩ := hrel
    by_cases hlt : k < 64
    · have HS := Lib.hid HI.out.next
      clear HI
      obtain ⟨x, hx⟩ : ∃ x, a.testBit k = x := ⟨_, rfl⟩
      have HX := Lib.hid hx
      rw [hx] at HS
      clear hx
      cases x <;>
      · go_wp2_with ((go_at_call 58; (with_reducible refine (bit_c a k _ hlt).mono ?_); rw [HX.out]; rintro e w' ⟨rfl, rfl⟩))
        go_round
        case rel => exact ⟨k + 1, _, by omega, by first | (show k + 1 ≤ k + 1; omega) | (show l ≤ k + 1; omega), by go_num, by first | rfl | go_num, HS⟩
        case measure => (simp [intOf]; try omega)
    · obtain rfl : k = 64 := by omega
      go_wp2
      go_ret
      have h1 := HI.out
      rw [show a % 2 ^ 64 = a from Nat.mod_eq_of_lt hA.out] at h1
      have h2 := (bl_spec 64 a (Nat.le_refl _) hA.out).1.unique h1
      exact ⟨ret1 (vint (by rw [h2])), rfl⟩
end Go.Proofs.Ytlpgflmjpdhpnaa
