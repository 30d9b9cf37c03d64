/- The contract of the reference's Div. -/
import Derived.Test.YtojoocfnbkgdnaaR
namespace Go.Proofs.Ytojoocfnbkgdnaa
open Go.RowKit
set_option maxHeartbeats 4000000
set_option maxRecDepth 100000
set_option linter.unusedVariables false
set_option linter.unusedSimpArgs false
theorem rdiv_ge (hi lo b : Nat) (w : World) (h : b ≤ hi) :
    Calls Try.prog 28 #[.int .u64 hi, .int .u64 lo, .int .u64 b] w fun e w' => e = .returned (.tuple #[.int .u64 0, .int .u64 0, .int .i64 2]) ∧ w' = w := by
  go_enter Try.func28, Try.ntmps28
  go_wp2
  go_ret3
  exact ⟨rfl, rfl⟩
theorem rdiv_c (hi lo b : Nat) (w : World) (h : hi < b) (hb : b < 18446744073709551616) (hlo : lo < 18446744073709551616) :
    Calls Try.prog 28 #[.int .u64 hi, .int .u64 lo, .int .u64 b] w fun e w' => e = .returned (.tuple #[.int .u64 ((hi * 18446744073709551616 + lo) / b : Nat), .int .u64 ((hi * 18446744073709551616 + lo) % b : Nat), .int .i64 0]) ∧ w' = w := by
  have hB := Lib.hid hb
  have hL := Lib.hid hlo
  have hst := Lib.hid (DivI.start hlo h)
  have hnle : ¬ b ≤ hi := by omega
  clear hb hlo
  go_enter Try.func28, Try.ntmps28
  go_wp2
  go_loop [9, 10, 11] (fun qq rr ii => ∃ (i q r : Nat), i ≤ 64 ∧ ii = .int .i64 (63 - (i : Int)) ∧ qq = .int .u64 q ∧ rr = .int .u64 r ∧ Hid (DivI hi lo b i q r)) (fun _ _ ii => (intOf ii + 1).toNat)
  case atStart => exact ⟨0, 0, hi, by omega, rfl, rfl, rfl, hst⟩
  case round =>
    obtain ⟨i, q, r, hi64, rfl, rfl, rfl, HI⟩ := hrel
    by_cases hlt : i < 64
    · obtain ⟨m, hm⟩ : ∃ m : Nat, 63 - i = m := ⟨_, rfl⟩
      obtain ⟨z, hz⟩ : ∃ z : Int, 63 - (i : Int) = z := ⟨_, rfl⟩
      have hzm : z = (m : Int) := by omega
      rw [hz]
      subst hzm
      have hm63 : m ≤ 63 := by omega
      obtain ⟨x, hx⟩ : ∃ x, lo.testBit m = x := ⟨_, rfl⟩
      have HX := Lib.hid hx
      have hS := DivI.step (x := x) HI.out hlt hL.out (by rw [hm]; exact hx)
      have hbd := HI.out.bounds (by omega) hB.out
      have hq64 : q < 2 ^ 63 := Nat.lt_of_lt_of_le HI.out.2.2 (Nat.pow_le_pow_right (by decide) (by omega))
      have hrb := HI.out.2.1
      have hbb := hB.out
      have HK : Hid (63 - ((i + 1 : Nat) : Int) = (m : Int) - 1) := Lib.hid (by omega)
      obtain ⟨q1, hq1⟩ : ∃ q1, 2 * q = q1 := ⟨_, rfl⟩
      have f3 : IntKind.u64.wrap ((q : Int) * 2) = (q1 : Int) := by rw [IntKind.wrap_u64]; omega
      obtain ⟨q2, hq2⟩ : ∃ q2, q1 + 1 = q2 := ⟨_, rfl⟩
      have f4 : IntKind.u64.wrap ((q1 : Int) + 1) = (q2 : Int) := by rw [IntKind.wrap_u64]; omega
      rw [hq1, hq2] at hS
      obtain ⟨t, ht⟩ : ∃ t, 2 * r + x.toNat = t := ⟨_, rfl⟩
      rw [ht] at hS
      obtain ⟨r1, hr1⟩ : ∃ r1, t - b = r1 := ⟨_, rfl⟩
      rw [hr1] at hS
      obtain ⟨s0, hs0⟩ : ∃ s0, 2 * r % 18446744073709551616 = s0 := ⟨_, rfl⟩
      have f1 := shl1 r
      rw [hs0] at f1
      obtain ⟨s, hs⟩ : ∃ s, t % 18446744073709551616 = s := ⟨_, rfl⟩
      cases x
      · simp only [Bool.toNat_false, Nat.add_zero] at ht
        obtain rfl : s = s0 := by omega
        have f6 : Hid (IntKind.u64.wrap (r1 : Int) = (r1 : Int)) := Lib.hid (wrap_lt r1 (by omega))
        by_cases hA : 9223372036854775808 ≤ r
        · have g1 : (r : Int) / 9223372036854775808 = 1 := by omega
          have f5 : IntKind.u64.wrap ((s : Int) - b) = (r1 : Int) := by rw [IntKind.wrap_u64]; omega
          have HN := Lib.hid (hS.1 (by omega))
          clear hS hbd hq64 hrb hbb hq1 hq2 ht hr1 hs0 hs hA hz hm hx HI
          go_wp2_with (go_at_call 31; (with_reducible refine (bit_c lo m _ (by omega)).mono ?_); rw [HX.out]; rintro e w' ⟨rfl, rfl⟩)
          go_round
          case rel => exact ⟨i + 1, q2, r1, by omega, by rw [HK.out], rfl, by first | rfl | exact vint f6.out, HN⟩
          case measure => (simp [intOf]; try omega)
        · have g1 : (r : Int) / 9223372036854775808 = 0 := by omega
          by_cases hge : b ≤ t
          · have hge' : b ≤ s := by omega
            have f5 : IntKind.u64.wrap ((s : Int) - b) = (r1 : Int) := by rw [IntKind.wrap_u64]; omega
            have HN := Lib.hid (hS.1 hge)
            clear hS hbd hq64 hrb hbb hq1 hq2 ht hr1 hs0 hs hA hz hm hx HI hge
            go_wp2_with (go_at_call 31; (with_reducible refine (bit_c lo m _ (by omega)).mono ?_); rw [HX.out]; rintro e w' ⟨rfl, rfl⟩)
            go_round
            case rel => exact ⟨i + 1, q2, r1, by omega, by rw [HK.out], rfl, by first | rfl | exact vint f6.out, HN⟩
            case measure => (simp [intOf]; try omega)
          · have hge' : s < b := by omega
            have HN : Hid (DivI hi lo b (i + 1) q1 s) := Lib.hid (by have := hS.2 (by omega); rwa [show t = s by omega] at this)
            clear hS hbd hq64 hrb hbb hq1 hq2 ht hr1 hs0 hs hA hz hm hx HI hge
            go_wp2_with (go_at_call 31; (with_reducible refine (bit_c lo m _ (by omega)).mono ?_); rw [HX.out]; rintro e w' ⟨rfl, rfl⟩)
            go_round
            case rel => exact ⟨i + 1, q1, s, by omega, by rw [HK.out], rfl, by first | rfl | exact vint f6.out, HN⟩
            case measure => (simp [intOf]; try omega)
      · simp only [Bool.toNat_true, Nat.add_zero] at ht
        have f2 : IntKind.u64.wrap ((s0 : Int) + 1) = (s : Int) := by rw [IntKind.wrap_u64]; omega
        have f6 : Hid (IntKind.u64.wrap (r1 : Int) = (r1 : Int)) := Lib.hid (wrap_lt r1 (by omega))
        by_cases hA : 9223372036854775808 ≤ r
        · have g1 : (r : Int) / 9223372036854775808 = 1 := by omega
          have f5 : IntKind.u64.wrap ((s : Int) - b) = (r1 : Int) := by rw [IntKind.wrap_u64]; omega
          have HN := Lib.hid (hS.1 (by omega))
          clear hS hbd hq64 hrb hbb hq1 hq2 ht hr1 hs0 hs hA hz hm hx HI
          go_wp2_with (go_at_call 31; (with_reducible refine (bit_c lo m _ (by omega)).mono ?_); rw [HX.out]; rintro e w' ⟨rfl, rfl⟩)
          go_round
          case rel => exact ⟨i + 1, q2, r1, by omega, by rw [HK.out], rfl, by first | rfl | exact vint f6.out, HN⟩
          case measure => (simp [intOf]; try omega)
        · have g1 : (r : Int) / 9223372036854775808 = 0 := by omega
          by_cases hge : b ≤ t
          · have hge' : b ≤ s := by omega
            have f5 : IntKind.u64.wrap ((s : Int) - b) = (r1 : Int) := by rw [IntKind.wrap_u64]; omega
            have HN := Lib.hid (hS.1 hge)
            clear hS hbd hq64 hrb hbb hq1 hq2 ht hr1 hs0 hs hA hz hm hx HI hge
            go_wp2_with (go_at_call 31; (with_reducible refine (bit_c lo m _ (by omega)).mono ?_); rw [HX.out]; rintro e w' ⟨rfl, rfl⟩)
            go_round
            case rel => exact ⟨i + 1, q2, r1, by omega, by rw [HK.out], rfl, by first | rfl | exact vint f6.out, HN⟩
            case measure => (simp [intOf]; try omega)
          · have hge' : s < b := by omega
            have HN : Hid (DivI hi lo b (i + 1) q1 s) := Lib.hid (by have := hS.2 (by omega); rwa [show t = s by omega] at this)
            clear hS hbd hq64 hrb hbb hq1 hq2 ht hr1 hs0 hs hA hz hm hx HI hge
            go_wp2_with (go_at_call 31; (with_reducible refine (bit_c lo m _ (by omega)).mono ?_); rw [HX.out]; rintro e w' ⟨rfl, rfl⟩)
            go_round
            case rel => exact ⟨i + 1, q1, s, by omega, by rw [HK.out], rfl, by first | rfl | exact vint f6.out, HN⟩
            case measure => (simp [intOf]; try omega)
    · obtain rfl : i = 64 := by omega
      go_wp2
      go_ret3
      obtain ⟨e1, e2⟩ := DivI.done HI.out
      exact ⟨ret3 (vint (congrArg Nat.cast e1)) (vint (congrArg Nat.cast e2)) rfl, rfl⟩
end Go.Proofs.Ytojoocfnbkgdnaa
