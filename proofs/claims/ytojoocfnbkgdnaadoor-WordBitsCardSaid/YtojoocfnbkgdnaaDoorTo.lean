/- math/bits.OnesCount64, word.Ones, abacusref01.Ones, abacusref01.Sqrt. -/
import Derived.Test.YtojoocfnbkgdnaaDoorRows
import Derived.Test.YtojoocfnbkgdnaaDoorM
import Derived.Test.YtojoocfnbkgdnaaDoorR
import Derived.Test.YtojoocfnbkgdnaaDoorS
import Derived.Test.YtojoocfnbkgdnaaDoorPc
import Derived.Laws.Bits64b
import Derived.Laws.Bits128
namespace Go.Proofs.YtojoocfnbkgdnaaDoor
open Go.RowKit
set_option maxHeartbeats 4000000
set_option maxRecDepth 100000
set_option linter.unusedVariables false
set_option linter.unusedSimpArgs false
theorem and127 {v o : Nat} (h : v % 128 = o) : bits .and .i64 (IntKind.i64.wrap (v : Int)) 127 = (o : Int) := by
  rw [i64_and127, IntKind.wrap_i64]; omega
theorem div_cast {a b : Nat} {k : Nat} {z : Int} (hz : z = (k : Int)) (h : a / k = b) : (a : Int) / z = (b : Int) := by rw [hz, ← h]; exact (Int.natCast_ediv a k).symm
theorem add_cast {a b c : Nat} (h : a + b = c) : (a : Int) + (b : Int) = (c : Int) := by rw [← h]; exact (Int.natCast_add a b).symm
theorem ones64_c (x : Nat) (w : World) (hx : x < 18446744073709551616) : Calls Tryd.prog 16 #[.int .u64 (x : Nat)] w fun e w' => e = .returned (.int .i64 (onesW x : Nat)) ∧ w' = w := by
  have hsum := pcN_sum x
  obtain ⟨f0, f1, f2, f3⟩ := bytes_sum (pcN x) (pcC_lt _) (fun i => pcC_digit _ i)
  rw [hsum] at f3
  obtain ⟨o, ho⟩ : ∃ o, onesW x = o := ⟨_, rfl⟩
  rw [ho] at f3 ⊢
  have la : pcA x < 18446744073709551616 := by
    have h1 : x / 2 &&& 6148914691236517205 ≤ 6148914691236517205 := Nat.and_le_right
    have h2 : x &&& 6148914691236517205 ≤ 6148914691236517205 := Nat.and_le_right
    unfold pcA; omega
  have lb : pcB (pcA x) < 18446744073709551616 := by
    have h1 : pcA x / 4 &&& 3689348814741910323 ≤ 3689348814741910323 := Nat.and_le_right
    have h2 : pcA x &&& 3689348814741910323 ≤ 3689348814741910323 := Nat.and_le_right
    unfold pcB; omega
  obtain ⟨a, ha⟩ : ∃ a, pcA x = a := ⟨_, rfl⟩
  obtain ⟨b, hb⟩ : ∃ b, pcB a = b := ⟨_, rfl⟩
  obtain ⟨c, hc⟩ : ∃ c, pcC b = c := ⟨_, rfl⟩
  have hN : pcN x = c := by unfold pcN; rw [ha, hb, hc]
  rw [hN] at f0 f1 f2 f3
  rw [ha, hb] at lb
  rw [ha] at la
  -- the first step
  obtain ⟨x1, hx1⟩ : ∃ y, x / 2 = y := ⟨_, rfl⟩
  have E1 : (x : Int) / 2 = (x1 : Int) := div_cast rfl hx1
  obtain ⟨p1, hp1⟩ : ∃ y, x1 &&& 6148914691236517205 = y := ⟨_, rfl⟩
  have P1 : bits .and .u64 (x1 : Int) 6148914691236517205 = (p1 : Int) := by rw [← hp1]; exact and_nat x1 6148914691236517205 (Nat.lt_of_le_of_lt (by rw [← hx1]; exact Nat.div_le_self _ _) hx) (by decide)
  obtain ⟨q1, hq1⟩ : ∃ y, x &&& 6148914691236517205 = y := ⟨_, rfl⟩
  have Q1 : bits .and .u64 (x : Int) 6148914691236517205 = (q1 : Int) := by rw [← hq1]; exact and_nat x 6148914691236517205 hx (by decide)
  have S1 : (p1 : Int) + (q1 : Int) = (a : Int) := by
    have : pcA x = p1 + q1 := by unfold pcA; rw [hx1, hp1, hq1]
    exact add_cast (this.symm.trans ha)
  -- the second step
  obtain ⟨x2, hx2⟩ : ∃ y, a / 4 = y := ⟨_, rfl⟩
  have E2 : (a : Int) / 4 = (x2 : Int) := div_cast rfl hx2
  obtain ⟨p2, hp2⟩ : ∃ y, x2 &&& 3689348814741910323 = y := ⟨_, rfl⟩
  have P2 : bits .and .u64 (x2 : Int) 3689348814741910323 = (p2 : Int) := by rw [← hp2]; exact and_nat x2 3689348814741910323 (Nat.lt_of_le_of_lt (by rw [← hx2]; exact Nat.div_le_self _ _) la) (by decide)
  obtain ⟨q2, hq2⟩ : ∃ y, a &&& 3689348814741910323 = y := ⟨_, rfl⟩
  have Q2 : bits .and .u64 (a : Int) 3689348814741910323 = (q2 : Int) := by rw [← hq2]; exact and_nat a 3689348814741910323 la (by decide)
  have S2 : (p2 : Int) + (q2 : Int) = (b : Int) := by
    have : pcB a = p2 + q2 := by unfold pcB; rw [hx2, hp2, hq2]
    exact add_cast (this.symm.trans hb)
  -- the third step
  obtain ⟨x3, hx3⟩ : ∃ y, b / 16 = y := ⟨_, rfl⟩
  have E3 : (b : Int) / 16 = (x3 : Int) := div_cast rfl hx3
  have hbs : pcB_small b := by rw [← hb]; exact pcB_small_of a
  obtain ⟨s3, hs3⟩ : ∃ y, x3 + b = y := ⟨_, rfl⟩
  have ls3 : s3 < 18446744073709551616 := by rw [← hs3, ← hx3]; exact hbs
  have S3 : (x3 : Int) + (b : Int) = (s3 : Int) := add_cast hs3
  have P3 : bits .and .u64 (s3 : Int) 1085102592571150095 = (c : Int) := by
    have : pcC b = s3 &&& 1085102592571150095 := by unfold pcC; rw [hx3, hs3]
    rw [← hc, this]; exact and_nat s3 1085102592571150095 ls3 (by decide)
  -- the bytes' sums
  obtain ⟨x4, hx4⟩ : ∃ y, c / 256 = y := ⟨_, rfl⟩
  rw [hx4] at f0 f1 f2 f3
  have E4 : (c : Int) / 256 = (x4 : Int) := div_cast rfl hx4
  obtain ⟨d, hd⟩ : ∃ y, c + x4 = y := ⟨_, rfl⟩
  rw [hd] at f0 f1 f2 f3
  have S4 : (c : Int) + (x4 : Int) = (d : Int) := add_cast hd
  obtain ⟨x5, hx5⟩ : ∃ y, d / 65536 = y := ⟨_, rfl⟩
  rw [hx5] at f1 f2 f3
  have E5 : (d : Int) / 65536 = (x5 : Int) := div_cast rfl hx5
  obtain ⟨u, hu⟩ : ∃ y, d + x5 = y := ⟨_, rfl⟩
  rw [hu] at f1 f2 f3
  have S5 : (d : Int) + (x5 : Int) = (u : Int) := add_cast hu
  obtain ⟨x6, hx6⟩ : ∃ y, u / 4294967296 = y := ⟨_, rfl⟩
  rw [hx6] at f2 f3
  have E6 : (u : Int) / 4294967296 = (x6 : Int) := div_cast rfl hx6
  obtain ⟨v, hv⟩ : ∃ y, u + x6 = y := ⟨_, rfl⟩
  rw [hv] at f2 f3
  have S6 : (u : Int) + (x6 : Int) = (v : Int) := add_cast hv
  have P7 : bits .and .i64 (IntKind.i64.wrap (v : Int)) 127 = (o : Int) := by
    exact and127 f3
  have wa := wrap_lt a la
  have wb := wrap_lt b lb
  have ws := wrap_lt s3 ls3
  have wd := wrap_lt d f0
  have wu := wrap_lt u f1
  have wvv := wrap_lt v f2
  clear hsum ho ha hb hc hN hx1 hp1 hq1 hx2 hp2 hq2 hx3 hbs hs3 hx4 hd hx5 hu hx6 hv f0 f1 f2 f3 la lb ls3 hx
  go_enter Tryd.func16, Tryd.ntmps16
  go_wp2
  go_ret
  exact ⟨ret1 (vint (by rw [show wrap64 (v : Int) = IntKind.i64.wrap (v : Int) by unfold wrap64; rw [IntKind.wrap_i64]]; exact P7)), rfl⟩
theorem ones_c (x : Nat) (w : World) (hx : x < 18446744073709551616) : Calls Tryd.prog 10 #[.int .u64 (x : Nat)] w fun e w' => e = .returned (.int .i64 (onesW x : Nat)) ∧ w' = w := by
  have C : Hid (Calls Tryd.prog 16 #[.int .u64 (x : Nat)] w fun e w' => e = .returned (.int .i64 (onesW x : Nat)) ∧ w' = w) := Lib.hid (ones64_c x w hx)
  clear hx
  go_enter Tryd.func10, Tryd.ntmps10
  go_wp2_with (go_at_call 16; (with_reducible refine C.out.mono ?_); rintro e w' ⟨rfl, rfl⟩)
  go_ret
  exact ⟨rfl, rfl⟩
theorem sumD_next (x k : Nat) : sumD 1 (k + 1) x = sumD 1 k x + (if x.testBit k then 1 else 0) := by
  rw [sumD_last, Nat.one_mul, Nat.pow_one, Nat.testBit_eq_decide_div_mod_eq]
  rcases Nat.mod_two_eq_zero_or_one (x / 2 ^ k) with h | h <;> simp [h]
theorem sumD_small (x : Nat) : ∀ k, sumD 1 k x ≤ k
  | 0 => Nat.le_refl _
  | k + 1 => by
    have := sumD_small x k
    rw [sumD_next]; split <;> omega
theorem rones_c (x : Nat) (w : World) : Calls Tryd.prog 11 #[.int .u64 (x : Nat)] w fun e w' => e = .returned (.int .i64 (onesW x : Nat)) ∧ w' = w := by
  go_enter Tryd.func11, Tryd.ntmps11
  go_wp2
  go_loop [3, 4] (fun n i => ∃ (k l : Nat), k ≤ 64 ∧ l ≤ k ∧ i = .int .i64 k ∧ n = .int .i64 l ∧ Hid (sumD 1 k x = l)) (fun _ i => 64 - (intOf i).toNat)
  case atStart => exact ⟨0, 0, by omega, by omega, rfl, rfl, Lib.hid rfl⟩
  case round =>
    obtain ⟨k, l, hk, hl, rfl, rfl, HI⟩ := hrel
    by_cases hlt : k < 64
    · have HS0 := sumD_next x k
      rw [HI.out] at HS0
      clear HI
      obtain ⟨z, hz⟩ : ∃ z, x.testBit k = z := ⟨_, rfl⟩
      have HX := Lib.hid hz
      rw [hz] at HS0
      clear hz
      cases z
      · have HS := Lib.hid (show sumD 1 (k + 1) x = l from HS0)
        clear HS0
        go_wp2_with ((go_at_call 14; (with_reducible refine (bit_c x k _ hlt).mono ?_); rw [HX.out]; rintro e w' ⟨rfl, rfl⟩))
        go_round
        case rel => exact ⟨k + 1, l, by omega, by omega, by go_num, rfl, HS⟩
        case measure => (simp [intOf]; try omega)
      · have HS := Lib.hid (show sumD 1 (k + 1) x = l + 1 from HS0)
        clear HS0
        go_wp2_with ((go_at_call 14; (with_reducible refine (bit_c x k _ hlt).mono ?_); rw [HX.out]; rintro e w' ⟨rfl, rfl⟩))
        go_round
        case rel => exact ⟨k + 1, l + 1, by omega, by omega, by go_num, by go_num, HS⟩
        case measure => (simp [intOf]; try omega)
    · obtain rfl : k = 64 := by omega
      go_wp2
      go_ret
      exact ⟨ret1 (vint (by rw [← HI.out]; rfl)), rfl⟩
/-- the root bit by bit -/
def SrI (x k r : Nat) : Prop := r % 2 ^ k = 0 ∧ r + 2 ^ k ≤ 4294967296 ∧ r * r ≤ x ∧ x < (r + 2 ^ k) * (r + 2 ^ k)
theorem SrI.start {x : Nat} (hx : x < 18446744073709551616) : SrI x 32 0 := ⟨by decide, by decide, by omega, by simpa using hx⟩
theorem SrI.step {x m r : Nat} (h : SrI x (m + 1) r) : (r + 2 ^ m < 4294967296) ∧ ((r + 2 ^ m) * (r + 2 ^ m) ≤ x → SrI x m (r + 2 ^ m)) ∧ (¬ (r + 2 ^ m) * (r + 2 ^ m) ≤ x → SrI x m r) := by
  obtain ⟨h1, h2, h3, h4⟩ := h
  have hp := Nat.two_pow_pos m
  have e : (2 : Nat) ^ (m + 1) = 2 ^ m + 2 ^ m := by rw [Nat.pow_succ]; omega
  have hm : r % 2 ^ m = 0 := by
    rw [Nat.pow_succ, Nat.mod_mul] at h1; omega
  rw [e] at h2 h4
  refine ⟨by omega, fun hc => ⟨by rw [Nat.add_mod_right]; exact hm, by omega, hc, by rw [Nat.add_assoc]; exact h4⟩, fun hc => ⟨hm, by omega, h3, by omega⟩⟩
theorem SrI.bit {x m r : Nat} (h : SrI x (m + 1) r) (hm : m < 32) : bits .or .u64 (r : Int) (IntKind.u64.wrap (2 ^ m)) = ((r + 2 ^ m : Nat) : Int) := by
  obtain ⟨h1, h2, _, _⟩ := h
  have hp : 2 ^ m < 2 ^ 64 := Nat.pow_lt_pow_right (by decide) (by omega)
  have e : ((2 : Int) ^ m) = ((2 ^ m : Nat) : Int) := by simp
  have hq := Nat.two_pow_pos (m + 1)
  rw [e, wrap_lt _ hp, or_nat r (2 ^ m) (by omega) hp]
  obtain ⟨q, hq⟩ : ∃ q, r = 2 ^ (m + 1) * q := ⟨r / 2 ^ (m + 1), by have := Nat.mod_add_div r (2 ^ (m + 1)); omega⟩
  rw [hq, Nat.two_pow_add_eq_or_of_lt (Nat.pow_lt_pow_right (by decide) (Nat.lt_succ_self m))]
theorem rsqrt_c (x : Nat) (w : World) (hx : x < 18446744073709551616) : Calls Tryd.prog 5 #[.int .u64 (x : Nat)] w (RootEnd x w) := by
  have hst := Lib.hid (SrI.start hx)
  have HX := Lib.hid hx
  clear hx
  go_enter Tryd.func5, Tryd.ntmps5
  go_wp2
  go_loop [4, 5] (fun a i => ∃ (k root : Nat), k ≤ 32 ∧ i = .int .i64 ((k : Int) - 1) ∧ a = .int .u64 root ∧ Hid (SrI x k root)) (fun _ i => (intOf i + 1).toNat)
  case atStart => exact ⟨32, 0, by omega, rfl, rfl, hst⟩
  case round =>
    obtain ⟨k, root, hk, rfl, rfl, HI⟩ := hrel
    by_cases h0 : k = 0
    · subst h0
      obtain ⟨h1, h2, h3, h4⟩ := HI.out
      have hR : Root x root (x - root * root) := by
        rw [Nat.pow_zero, Nat.add_mul, Nat.mul_add, Nat.mul_one, Nat.one_mul] at h4
        exact ⟨by omega, by omega⟩
      rw [Nat.pow_zero] at h2
      have HR := Lib.hid hR
      obtain ⟨q, hq⟩ : ∃ q, root * root = q := ⟨_, rfl⟩
      rw [hq] at HR h3
      have lq : q < 18446744073709551616 := Nat.lt_of_le_of_lt h3 HX.out
      have K1 : (root : Int) * (root : Int) = (q : Int) := by rw [← hq]; exact (Int.natCast_mul _ _).symm
      have W1 := wrap_lt q lq
      obtain ⟨s, hs⟩ : ∃ s, x - q = s := ⟨_, rfl⟩
      rw [hs] at HR
      have K2 : (x : Int) - (q : Int) = (s : Int) := by omega
      have W2 := wrap_lt s (by have := HX.out; omega)
      have hl : root < 4294967296 := by omega
      clear h1 h2 h3 h4 hR hq lq hs HI HX hst
      go_wp2
      go_ret2
      exact ⟨root, s, HR.out, hl, rfl, rfl⟩
    · obtain ⟨m, rfl⟩ : ∃ m, k = m + 1 := ⟨k - 1, by omega⟩
      have f1 := HI.out.bit (by omega)
      obtain ⟨hl, hy, hn⟩ := HI.out.step
      obtain ⟨c, hc⟩ : ∃ c, root + 2 ^ m = c := ⟨_, rfl⟩
      rw [hc] at f1 hl hy hn
      obtain ⟨q, hq⟩ : ∃ q, c * c = q := ⟨_, rfl⟩
      have lq : q < 18446744073709551616 := by
        rw [← hq]
        exact Nat.lt_of_le_of_lt (Nat.mul_le_mul (Nat.le_of_lt_succ hl) (Nat.le_of_lt_succ hl)) (by decide)
      rw [hq] at hy hn
      have K1 : (c : Int) * (c : Int) = (q : Int) := by rw [← hq]; exact (Int.natCast_mul _ _).symm
      have W1 := wrap_lt q lq
      have KI : ((m + 1 : Nat) : Int) - 1 = (m : Int) := by omega
      rw [KI]
      clear hc hq lq hst h0
      by_cases hle : q ≤ x
      · have HN := Lib.hid (hy hle)
        clear hy hn HI HX
        go_wp2
        go_round
        case rel => exact ⟨m, c, by omega, by first | rfl | go_num, rfl, HN⟩
        case measure => (simp [intOf]; try omega)
      · have HN := Lib.hid (hn hle)
        have hle2 : x < q := by omega
        clear hy hn HI HX
        go_wp2
        go_round
        case rel => exact ⟨m, root, by omega, by first | rfl | go_num, rfl, HN⟩
        case measure => (simp [intOf]; try omega)
theorem rsqrt_e (x : Nat) (w : World) (hx : x < 18446744073709551616) : Calls Tryd.prog 5 #[.int .u64 x] w fun e w' => e = .returned (.tuple #[.int .u64 (isqrt x : Nat), .int .u64 (x - isqrt x * isqrt x : Nat)]) ∧ w' = w :=
  (rsqrt_c x w hx).mono fun e w' ⟨r, s, hR, hr, he, hw⟩ => by
    obtain ⟨e1, e2⟩ := isqrt_of hR
    exact ⟨by rw [he, ← e2, ← e1], hw⟩
end Go.Proofs.YtojoocfnbkgdnaaDoor
