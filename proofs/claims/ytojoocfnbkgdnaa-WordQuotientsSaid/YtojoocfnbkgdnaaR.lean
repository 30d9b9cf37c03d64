/- Contracts of the functions of package abacusref01. -/
import Derived.Test.YtojoocfnbkgdnaaW
import Derived.LoopTactic
namespace Go.Proofs.Ytojoocfnbkgdnaa
open Go.RowKit
set_option maxHeartbeats 4000000
set_option maxRecDepth 100000
set_option linter.unusedVariables false
set_option linter.unusedSimpArgs false

theorem bit_c (a i : Nat) (w : World) (hi : i < 64) : Calls Try.prog 31 #[.int .u64 a, .int .i64 i] w fun e w' => e = .returned (.bool (a.testBit i)) ∧ w' = w := by
  have e1 := Lib.hid (bit_eq a i)
  go_enter Try.func31, Try.ntmps31
  go_wp2
  go_ret
  exact ⟨ret1 (vbool e1.out), rfl⟩

theorem radd_c (a b : Nat) (c : Bool) (w : World) (ha : a < 18446744073709551616) (hb : b < 18446744073709551616) :
    Calls Try.prog 14 #[.int .u64 a, .int .u64 b, .bool c] w fun e w' => e = .returned (.tuple #[.int .u64 (addv a b c : Nat), .bool (addc a b c)]) ∧ w' = w := by
  have hA := Lib.hid ha
  have hB := Lib.hid hb
  clear ha hb
  go_enter Try.func14, Try.ntmps14
  go_wp2
  go_loop [2, 8, 9] (fun v s i => ∃ (k m : Nat) (cr : Bool), k ≤ 64 ∧ i = .int .i64 k ∧ s = .int .u64 m ∧ v = .bool cr ∧ Hid (SumI a b c k m cr)) (fun _ _ i => 64 - (intOf i).toNat)
  case atStart => exact ⟨0, 0, c, by omega, rfl, rfl, rfl, Lib.hid (SumI.start a b c)⟩
  case round =>
    obtain ⟨k, m, cr, hk, rfl, rfl, rfl, HI⟩ := hrel
    by_cases hlt : k < 64
    · obtain ⟨x, hx⟩ : ∃ x, a.testBit k = x := ⟨_, rfl⟩
      obtain ⟨y, hy⟩ : ∃ y, b.testBit k = y := ⟨_, rfl⟩
      have HS := Lib.hid (HI.out.step hx hy)
      have HO := Lib.hid (or_top m k hlt HI.out.1)
      have HX := Lib.hid hx
      have HY := Lib.hid hy
      clear hx hy HI
      cases x <;> cases y <;> cases cr <;>
      · go_wp2_with (first
          | (go_at_call 31; (with_reducible refine (bit_c a k _ hlt).mono ?_); rw [HX.out]; rintro e w' ⟨rfl, rfl⟩)
          | (go_at_call 31; (with_reducible refine (bit_c b k _ hlt).mono ?_); rw [HY.out]; rintro e w' ⟨rfl, rfl⟩))
        go_round
        case rel => exact ⟨k + 1, _, _, by omega, by go_num, by first | rfl | exact vint HO.out, by first | rfl, HS⟩
        case measure => (simp [intOf]; try omega)
    · obtain rfl : k = 64 := by omega
      go_wp2
      go_ret2
      obtain ⟨e1, e2⟩ := HI.out.done hA.out hB.out
      exact ⟨ret2 (vint (by rw [e1])) (vbool e2), rfl⟩
theorem rsub_c (a b : Nat) (c : Bool) (w : World) (ha : a < 18446744073709551616) (hb : b < 18446744073709551616) :
    Calls Try.prog 16 #[.int .u64 a, .int .u64 b, .bool c] w fun e w' => e = .returned (.tuple #[.int .u64 (subv a b c : Nat), .bool (subc a b c)]) ∧ w' = w := by
  have hA := Lib.hid ha
  have hB := Lib.hid hb
  clear ha hb
  go_enter Try.func16, Try.ntmps16
  go_wp2
  go_loop [2, 8, 9] (fun v s i => ∃ (k m : Nat) (cr : Bool), k ≤ 64 ∧ i = .int .i64 k ∧ s = .int .u64 m ∧ v = .bool cr ∧ Hid (DifI a b c k m cr)) (fun _ _ i => 64 - (intOf i).toNat)
  case atStart => exact ⟨0, 0, c, by omega, rfl, rfl, rfl, Lib.hid (DifI.start a b c)⟩
  case round =>
    obtain ⟨k, m, cr, hk, rfl, rfl, rfl, HI⟩ := hrel
    by_cases hlt : k < 64
    · obtain ⟨x, hx⟩ : ∃ x, a.testBit k = x := ⟨_, rfl⟩
      obtain ⟨y, hy⟩ : ∃ y, b.testBit k = y := ⟨_, rfl⟩
      have HS := Lib.hid (HI.out.step hx hy)
      have HO := Lib.hid (or_top m k hlt HI.out.1)
      have HX := Lib.hid hx
      have HY := Lib.hid hy
      clear hx hy HI
      cases x <;> cases y <;> cases cr <;>
      · go_wp2_with (first
          | (go_at_call 31; (with_reducible refine (bit_c a k _ hlt).mono ?_); rw [HX.out]; rintro e w' ⟨rfl, rfl⟩)
          | (go_at_call 31; (with_reducible refine (bit_c b k _ hlt).mono ?_); rw [HY.out]; rintro e w' ⟨rfl, rfl⟩))
        go_round
        case rel => exact ⟨k + 1, _, _, by omega, by go_num, by first | rfl | exact vint HO.out, by first | rfl, HS⟩
        case measure => (simp [intOf]; try omega)
    · obtain rfl : k = 64 := by omega
      go_wp2
      go_ret2
      obtain ⟨e1, e2⟩ := HI.out.done hA.out hB.out
      exact ⟨ret2 (vint (by rw [e1])) (vbool e2), rfl⟩

theorem rmul_c (a b : Nat) (w : World) (ha : a < 18446744073709551616) (hb : b < 18446744073709551616) :
    Calls Try.prog 11 #[.int .u64 a, .int .u64 b] w fun e w' => e = .returned (.tuple #[.int .u64 (mulh a b : Nat), .int .u64 (mull a b : Nat)]) ∧ w' = w := by
  have hA := Lib.hid ha
  have hB := Lib.hid hb
  have hst := Lib.hid (MulI.start a b hb)
  clear ha hb
  go_enter Try.func11, Try.ntmps11
  go_wp2
  go_loop [6, 7, 8] (fun h l i => ∃ (z : Int) (hi lo : Nat), -1 ≤ z ∧ z ≤ 63 ∧ i = .int .i64 z ∧ h = .int .u64 hi ∧ l = .int .u64 lo ∧ Hid (MulI a b (z + 1).toNat hi lo)) (fun _ _ i => (intOf i + 1).toNat)
  case atStart => exact ⟨63, 0, 0, by omega, by omega, rfl, rfl, rfl, hst⟩
  case round =>
    obtain ⟨z, hi, lo, hz1, hz2, rfl, rfl, rfl, HI⟩ := hrel
    by_cases hlt : 0 ≤ z
    · obtain ⟨k, rfl⟩ := Int.eq_ofNat_of_zero_le hlt
      have hk : k < 64 := by omega
      have HI' : Hid (MulI a b (k + 1) hi lo) := Lib.hid (by have := HI.out; rwa [show ((k : Int) + 1).toNat = k + 1 by omega] at this)
      obtain ⟨x, hx⟩ : ∃ x, b.testBit k = x := ⟨_, rfl⟩
      have HS := Lib.hid (HI'.out.step hA.out hB.out hx)
      have HX := Lib.hid hx
      obtain ⟨h1, e1⟩ : ∃ h1 : Nat, (2 * hi + lo / 9223372036854775808) % 18446744073709551616 = h1 := ⟨_, rfl⟩
      obtain ⟨l1, e2⟩ : ∃ l1 : Nat, 2 * lo % 18446744073709551616 = l1 := ⟨_, rfl⟩
      have f1 := shl1_or hi lo HI'.out.2.1
      have f2 := shl1 lo
      have hl1 := Lib.hid (show l1 < 18446744073709551616 by omega)
      rw [e1] at f1 HS
      rw [e2] at f2 HS
      clear e1 e2 hx HI HI'
      cases x
      · go_wp2_with (first
          | (go_at_call 31; (with_reducible refine (bit_c b k _ hk).mono ?_); rw [HX.out]; rintro e w' ⟨rfl, rfl⟩)
          | (go_at_call 14; (with_reducible refine (radd_c l1 a false _ hl1.out hA.out).mono ?_); rintro e w' ⟨rfl, rfl⟩))
        go_round
        case rel => exact ⟨k - 1, _, _, by omega, by omega, by go_num, rfl, rfl, Lib.hid (by have := HS.out; rw [show ((k : Int) - 1 + 1).toNat = k by omega]; simpa using this)⟩
        case measure => (simp [intOf]; try omega)
      · cases hc : addc l1 a false
        · have HS2 : Hid (MulI a b k h1 (addv l1 a false)) := Lib.hid (by have := HS.out; rw [hc] at this; simpa using this)
          clear HS
          go_wp2_with (first
            | (go_at_call 31; (with_reducible refine (bit_c b k _ hk).mono ?_); rw [HX.out]; rintro e w' ⟨rfl, rfl⟩)
            | (go_at_call 14; (with_reducible refine (radd_c l1 a false _ hl1.out hA.out).mono ?_); rintro e w' ⟨rfl, rfl⟩))
          go_round
          case rel => exact ⟨k - 1, _, _, by omega, by omega, by go_num, rfl, rfl, Lib.hid (by have := HS2.out; rwa [show ((k : Int) - 1 + 1).toNat = k by omega])⟩
          case measure => (simp [intOf]; try omega)
        · have HS2 : Hid (MulI a b k (h1 + 1) (addv l1 a false)) := Lib.hid (by have := HS.out; rw [hc] at this; simpa using this)
          have e3 := Lib.hid (wrap_lt (h1 + 1) HS2.out.1)
          clear HS
          go_wp2_with (first
            | (go_at_call 31; (with_reducible refine (bit_c b k _ hk).mono ?_); rw [HX.out]; rintro e w' ⟨rfl, rfl⟩)
            | (go_at_call 14; (with_reducible refine (radd_c l1 a false _ hl1.out hA.out).mono ?_); rintro e w' ⟨rfl, rfl⟩))
          go_round
          case rel => exact ⟨k - 1, h1 + 1, _, by omega, by omega, by go_num, vint e3.out, rfl, Lib.hid (by have := HS2.out; rwa [show ((k : Int) - 1 + 1).toNat = k by omega])⟩
          case measure => (simp [intOf]; try omega)
    · obtain rfl : z = -1 := by omega
      go_wp2
      go_ret2
      obtain ⟨e1, e2⟩ := MulI.done HI.out
      exact ⟨ret2 (vint (by rw [e1])) (vint (by rw [e2])), rfl⟩
theorem rcount_c (n : Int) (w : World) : Calls Try.prog 35 #[.int .i64 n] w fun e w' => e = .returned (.int .i64 (clamp n 64 : Nat)) ∧ w' = w := by
  go_enter Try.func35, Try.ntmps35
  go_wp2
  all_goals
    go_ret
    exact ⟨ret1 (vint (by unfold clamp; omega)), rfl⟩
theorem rleft_c (a : Nat) (n : Int) (w : World) (ha : a < 18446744073709551616) :
    Calls Try.prog 20 #[.int .u64 a, .int .i64 n] w fun e w' => e = .returned (.int .u64 (a * 2 ^ clamp n 64 % 18446744073709551616 : Nat)) ∧ w' = w := by
  have hc := clamp_le n 64
  obtain ⟨m, hm⟩ : ∃ m : Nat, clamp n 64 = m := ⟨_, rfl⟩
  have H := Lib.hid hm
  have hA := Lib.hid ha
  rw [hm] at hc ⊢
  clear hm ha
  go_enter Try.func20, Try.ntmps20
  go_wp2_with (go_at_call 35; refine (rcount_c _ _).mono ?_; rw [H.out]; rintro e w' ⟨rfl, rfl⟩)
  go_loop [0, 5] (fun x i => ∃ (k y : Nat), k ≤ m ∧ i = .int .i64 k ∧ x = .int .u64 y ∧ Hid (y = a * 2 ^ (m - k) % 18446744073709551616)) (fun _ i => (intOf i).toNat)
  case atStart => exact ⟨m, a, by omega, rfl, rfl, Lib.hid (by rw [Nat.sub_self, Nat.pow_zero, Nat.mul_one, Nat.mod_eq_of_lt hA.out])⟩
  case round =>
    obtain ⟨k, y, hk, rfl, rfl, HI⟩ := hrel
    by_cases hlt : 0 < k
    · have f1 := shl1 y
      go_wp2
      go_round
      case rel => exact ⟨k - 1, 2 * y % 18446744073709551616, by omega, by go_num, rfl, Lib.hid (by
        have := HI.out
        rw [show m - (k - 1) = (m - k) + 1 by omega, ← pow_shl, ← this])⟩
      case measure => (simp [intOf]; try omega)
    · obtain rfl : k = 0 := by omega
      go_wp2
      go_ret
      have e := HI.out
      rw [Nat.sub_zero] at e
      exact ⟨ret1 (vint (congrArg Nat.cast e)), rfl⟩
theorem rright_c (a : Nat) (n : Int) (w : World) (ha : a < 18446744073709551616) :
    Calls Try.prog 21 #[.int .u64 a, .int .i64 n] w fun e w' => e = .returned (.int .u64 (a / 2 ^ clamp n 64 : Nat)) ∧ w' = w := by
  have hc := clamp_le n 64
  obtain ⟨m, hm⟩ : ∃ m : Nat, clamp n 64 = m := ⟨_, rfl⟩
  have H := Lib.hid hm
  have hA := Lib.hid ha
  rw [hm] at hc ⊢
  clear hm ha
  go_enter Try.func21, Try.ntmps21
  go_wp2_with (go_at_call 35; refine (rcount_c _ _).mono ?_; rw [H.out]; rintro e w' ⟨rfl, rfl⟩)
  go_loop [0, 5] (fun x i => ∃ (k y : Nat), k ≤ m ∧ i = .int .i64 k ∧ x = .int .u64 y ∧ Hid (y = a / 2 ^ (m - k))) (fun _ i => (intOf i).toNat)
  case atStart => exact ⟨m, a, by omega, rfl, rfl, Lib.hid (by rw [Nat.sub_self, Nat.pow_zero, Nat.div_one])⟩
  case round =>
    obtain ⟨k, y, hk, rfl, rfl, HI⟩ := hrel
    by_cases hlt : 0 < k
    · have f1 := half_int y (by have := HI.out; have h := hA.out; have := Nat.div_le_self a (2 ^ (m - k)); omega)
      go_wp2
      go_round
      case rel => exact ⟨k - 1, y / 2, by omega, by go_num, rfl, Lib.hid (by
        have := HI.out
        rw [show m - (k - 1) = (m - k) + 1 by omega, Nat.pow_succ, ← Nat.div_div_eq_div_mul, ← this])⟩
      case measure => (simp [intOf]; try omega)
    · obtain rfl : k = 0 := by omega
      go_wp2
      go_ret
      have e := HI.out
      rw [Nat.sub_zero] at e
      exact ⟨ret1 (vint (congrArg Nat.cast e)), rfl⟩
theorem rmask_c (n : Int) (w : World) :
    Calls Try.prog 23 #[.int .i64 n] w fun e w' => e = .returned (.int .u64 (2 ^ clamp n 64 - 1 : Nat)) ∧ w' = w := by
  have hc := Lib.hid (clamp_le n 64)
  go_enter Try.func23, Try.ntmps23
  go_wp2_with (go_at_call 20; refine (rleft_c 1 _ _ (by omega)).mono ?_; rintro e w' ⟨rfl, rfl⟩)
  go_ret
  refine ⟨ret1 (vint ?_), rfl⟩
  exact mask_int2 _ hc.out
theorem rfield_c (a : Nat) (low n : Int) (w : World) (ha : a < 18446744073709551616) :
    Calls Try.prog 25 #[.int .u64 a, .int .i64 low, .int .i64 n] w fun e w' => e = .returned (.int .u64 (a / 2 ^ clamp low 64 % 2 ^ clamp n 64 : Nat)) ∧ w' = w := by
  obtain ⟨y, hy⟩ : ∃ y : Nat, a / 2 ^ clamp low 64 = y := ⟨_, rfl⟩
  obtain ⟨z, hz⟩ : ∃ z : Nat, 2 ^ clamp n 64 - 1 = z := ⟨_, rfl⟩
  have e1 := Lib.hid (show bits .and .u64 (y : Int) (z : Int) = ((a / 2 ^ clamp low 64 % 2 ^ clamp n 64 : Nat) : Int) by
    rw [← hz, ← hy]; exact and_maskn _ _ (clamp_le n 64))
  have H := Lib.hid hy
  have H2 := Lib.hid hz
  have hA := Lib.hid ha
  clear hy hz ha
  go_enter Try.func25, Try.ntmps25
  go_wp2_with (first
    | (go_at_call 21; refine (rright_c _ _ _ hA.out).mono ?_; rw [H.out]; rintro e w' ⟨rfl, rfl⟩)
    | (go_at_call 23; refine (rmask_c _ _).mono ?_; rw [H2.out]; rintro e w' ⟨rfl, rfl⟩))
  go_ret
  exact ⟨ret1 (vint e1.out), rfl⟩
theorem rextend_c (a : Nat) (n : Int) (w : World) (ha : a < 18446744073709551616) :
    Calls Try.prog 26 #[.int .u64 a, .int .i64 n] w fun e w' => e = .returned (.int .u64 (extv a (max 1 (clamp n 64)) : Nat)) ∧ w' = w := by
  obtain ⟨m, hm⟩ : ∃ m : Nat, clamp n 64 = m := ⟨_, rfl⟩
  have hm2 : m ≤ 64 := by have := clamp_le n 64; omega
  have H := Lib.hid hm
  rw [hm]
  clear hm ha
  obtain ⟨m', hm'⟩ : ∃ m' : Nat, max 1 m = m' := ⟨_, rfl⟩
  have h1 : 1 ≤ m' := by omega
  have h2 : m' ≤ 64 := by omega
  obtain ⟨z, hz⟩ : ∃ z : Nat, 2 ^ m' - 1 = z := ⟨_, rfl⟩
  have H2 := Lib.hid (show 2 ^ clamp (m' : Int) 64 - 1 = z by rw [clamp_of _ _ (by omega) (by omega)]; exact hz)
  have e1 := and_maskn a m' h2
  rw [hz] at e1
  obtain ⟨y, hy⟩ : ∃ y : Nat, a % 2 ^ m' = y := ⟨_, rfl⟩
  rw [hy] at e1
  have hyl : y < 2 ^ m' := by rw [← hy]; exact Nat.mod_lt _ (Nat.two_pow_pos _)
  have e2 := Lib.hid (or_notmask y m' h2 hyl)
  have HY := Lib.hid hy
  have HZ := Lib.hid hz
  have HM := Lib.hid hm'
  rw [hm']
  clear hyl hy hz
  have hcase : (m < 1 ∧ m' = 1) ∨ (1 ≤ m ∧ m' = m) := by omega
  obtain ⟨x, hx⟩ : ∃ x, a.testBit (m' - 1) = x := ⟨_, rfl⟩
  have HX := Lib.hid hx
  clear hx hm'
  rcases hcase with ⟨hlt, rfl⟩ | ⟨hge, rfl⟩
  · have hmask := Lib.hid (show ∀ W, Calls Try.prog 23 #[.int .i64 1] W fun e w' => e = .returned (.int .u64 (z : Nat)) ∧ w' = W from fun W => by rw [← H2.out]; exact rmask_c _ _)
    have hbit := Lib.hid (show ∀ W, Calls Try.prog 31 #[.int .u64 a, .int .i64 0] W fun e w' => e = .returned (.bool x) ∧ w' = W from fun W => by rw [← HX.out]; exact bit_c a 0 _ (by omega))
    cases x
    · have e3 := Lib.hid (ext_low a 1 h1 HX.out)
      go_enter Try.func26, Try.ntmps26
      go_wp2_with (first
        | (go_at_call 35; (with_reducible refine (rcount_c _ _).mono ?_); rw [H.out]; rintro e w' ⟨rfl, rfl⟩)
        | (go_at_call 23; (with_reducible refine (hmask.out _).mono ?_); rintro e w' ⟨rfl, rfl⟩)
        | (go_at_call 31; (with_reducible refine (hbit.out _).mono ?_); rintro e w' ⟨rfl, rfl⟩))
      go_ret
      exact ⟨ret1 (vint (congrArg Nat.cast (HY.out.symm.trans e3.out.symm))), rfl⟩
    · have e3 := Lib.hid (ext_high a 1 h1 HX.out)
      have e4 := Lib.hid (not_int z (by have := HZ.out; have hp := Nat.pow_le_pow_right (show 2 > 0 by decide) h2; omega))
      go_enter Try.func26, Try.ntmps26
      go_wp2_with (first
        | (go_at_call 35; (with_reducible refine (rcount_c _ _).mono ?_); rw [H.out]; rintro e w' ⟨rfl, rfl⟩)
        | (go_at_call 23; (with_reducible refine (hmask.out _).mono ?_); rintro e w' ⟨rfl, rfl⟩)
        | (go_at_call 31; (with_reducible refine (hbit.out _).mono ?_); rintro e w' ⟨rfl, rfl⟩))
      go_ret
      refine ⟨ret1 (vint ?_), rfl⟩
      rw [e4.out, e3.out, HY.out, ← e2.out, HZ.out]
  · have hmask := Lib.hid (show ∀ W, Calls Try.prog 23 #[.int .i64 (m' : Nat)] W fun e w' => e = .returned (.int .u64 (z : Nat)) ∧ w' = W from fun W => by rw [← H2.out]; exact rmask_c _ _)
    have hbit := Lib.hid (show ∀ W, Calls Try.prog 31 #[.int .u64 a, .int .i64 ((m' : Int) - 1)] W fun e w' => e = .returned (.bool x) ∧ w' = W from fun W => by
      rw [← HX.out, show (m' : Int) - 1 = ((m' - 1 : Nat) : Int) by omega]
      exact bit_c a (m' - 1) _ (by omega))
    cases x
    · have e3 := Lib.hid (ext_low a m' h1 HX.out)
      go_enter Try.func26, Try.ntmps26
      go_wp2_with (first
        | (go_at_call 35; (with_reducible refine (rcount_c _ _).mono ?_); rw [H.out]; rintro e w' ⟨rfl, rfl⟩)
        | (go_at_call 23; (with_reducible refine (hmask.out _).mono ?_); rintro e w' ⟨rfl, rfl⟩)
        | (go_at_call 31; (with_reducible refine (hbit.out _).mono ?_); rintro e w' ⟨rfl, rfl⟩))
      go_ret
      exact ⟨ret1 (vint (congrArg Nat.cast (HY.out.symm.trans e3.out.symm))), rfl⟩
    · have e3 := Lib.hid (ext_high a m' h1 HX.out)
      have e4 := Lib.hid (not_int z (by have := HZ.out; have hp := Nat.pow_le_pow_right (show 2 > 0 by decide) h2; omega))
      go_enter Try.func26, Try.ntmps26
      go_wp2_with (first
        | (go_at_call 35; (with_reducible refine (rcount_c _ _).mono ?_); rw [H.out]; rintro e w' ⟨rfl, rfl⟩)
        | (go_at_call 23; (with_reducible refine (hmask.out _).mono ?_); rintro e w' ⟨rfl, rfl⟩)
        | (go_at_call 31; (with_reducible refine (hbit.out _).mono ?_); rintro e w' ⟨rfl, rfl⟩))
      go_ret
      refine ⟨ret1 (vint ?_), rfl⟩
      rw [e4.out, e3.out, HY.out, ← e2.out, HZ.out]
end Go.Proofs.Ytojoocfnbkgdnaa
