/- abacusref25: put, Mask. -/
import Derived.Test.YteelconabmfnkaaVk
namespace Go.Proofs.Yteelconabmfnkaa
open Go Go.RowKit
set_option maxHeartbeats 4000000
set_option maxRecDepth 100000
set_option linter.unusedVariables false
set_option linter.unusedSimpArgs false
theorem i64_and1 (n : Nat) (h : n < 9223372036854775808) : bits .and .i64 (n : Int) 1 = ((n % 2 : Nat) : Int) := by
  have h1 : (BitVec.ofInt 64 (n : Int)) = BitVec.ofNat 64 n := by simp
  have h2 : (BitVec.ofInt 64 (1 : Int)) = BitVec.ofNat 64 1 := rfl
  have h3 : (BitVec.ofNat 64 n &&& BitVec.ofNat 64 1) = BitVec.ofNat 64 (n % 2) := by
    apply BitVec.eq_of_toNat_eq
    rw [BitVec.toNat_and, BitVec.toNat_ofNat, BitVec.toNat_ofNat, BitVec.toNat_ofNat, Nat.mod_eq_of_lt (show n < 2 ^ 64 by omega), Nat.mod_eq_of_lt (show n % 2 < 2 ^ 64 by omega)]
    exact Nat.and_two_pow_sub_one_eq_mod n 1
  have e : bits .and .i64 (n : Int) 1 = IntKind.i64.wrap ((BitVec.ofInt 64 (n : Int) &&& BitVec.ofInt 64 (1 : Int)).toNat : Int) := rfl
  rw [e, h1, h2, h3, BitVec.toNat_ofNat, Nat.mod_eq_of_lt (show n % 2 < 2 ^ 64 by omega)]
  simp only [IntKind.wrap, IntKind.signed, IntKind.bits]
  simp
  omega
theorem put_step (v k : Nat) : v % 2 ^ (k + 1) = v % 2 ^ k + 2 ^ k * (v / 2 ^ k % 2) := Nat.mod_pow_succ
theorem put_c (W : World) (low n v : Nat) (hln : low + n ≤ 32) (hv : v < 9223372036854775808) :
    Calls Try.prog 58 #[.int .i64 low, .int .i64 n, .int .i64 v] W fun e w' => e = .returned (.int .u32 (v % 2 ^ n * 2 ^ low : Nat)) ∧ w' = W := by
  have H0 : Hid (0 = v % 2 ^ 0 * 2 ^ low) := Lib.hid (by simp [Nat.mod_one])
  go_enter Try.func58, Try.ntmps58
  go_wp2
  go_loop [7, 8] (fun x i => ∃ k y : Nat, k ≤ n ∧ i = .int .i64 (k : Nat) ∧ x = .int .u32 (y : Nat) ∧ Hid (y = v % 2 ^ k * 2 ^ low)) (fun _ i => n - (intOf i).toNat)
  case atStart => exact ⟨0, 0, Nat.zero_le _, rfl, rfl, H0⟩
  case round =>
    obtain ⟨k, y, hk, rfl, rfl, HY⟩ := hrel
    clear H0
    by_cases hlt : k < n
    · obtain ⟨d, hd⟩ : ∃ d, v / 2 ^ k % 2 = d := ⟨_, rfl⟩
      have e1 : bits .and .i64 ((v : Int) / 2 ^ k) 1 = ((d : Nat) : Int) := by
        have h1 : (v : Int) / 2 ^ k = ((v / 2 ^ k : Nat) : Int) := by simp
        rw [h1, i64_and1 _ (Nat.lt_of_le_of_lt (Nat.div_le_self _ _) hv), hd]
      obtain ⟨q, hq⟩ : ∃ q, low + k = q := ⟨_, rfl⟩
      have hqi : (low : Int) + (k : Int) = (q : Int) := by omega
      have hq32 : q < 32 := by omega
      obtain ⟨p, hp⟩ : ∃ p, 2 ^ q = p := ⟨_, rfl⟩
      have hp1 : p ≤ 2147483648 := by rw [← hp]; exact Nat.pow_le_pow_right (n := 2) (by decide) (show q ≤ 31 by omega)
      have e2 : (2 : Int) ^ q % 4294967296 = (p : Int) := by
        have h2 : ((2 : Int) ^ q) = ((p : Nat) : Int) := by rw [← hp]; simp
        rw [h2]; omega
      have hyp : y < p := by
        rw [HY.out, ← hp, ← hq, Nat.pow_add, Nat.mul_comm (2 ^ low)]
        exact Nat.mul_lt_mul_of_pos_right (Nat.mod_lt _ (Nat.pow_pos (by decide))) (Nat.pow_pos (by decide))
      have hS : v % 2 ^ (k + 1) * 2 ^ low = y + p * d := by
        rw [put_step, Nat.add_mul, ← HY.out, hd, ← hp, ← hq, Nat.pow_add]
        congr 1
        rw [Nat.mul_comm (2 ^ low), Nat.mul_assoc, Nat.mul_assoc, Nat.mul_comm d]
      rcases (by omega : d = 0 ∨ d = 1) with h0 | h0
      · have z : ((d : Int) == 1) = false := by rw [h0]; rfl
        have HN : Hid (y = v % 2 ^ (k + 1) * 2 ^ low) := Lib.hid (by rw [hS, h0]; simp)
        clear hd hq hp h0 hS e2 hqi
        go_wp2
        go_round
        case rel => exact ⟨k + 1, y, by omega, by go_num, rfl, HN⟩
        case measure => simp [intOf]; omega
      · have z : ((d : Int) == 1) = true := by rw [h0]; rfl
        have HN : Hid (y + p = v % 2 ^ (k + 1) * 2 ^ low) := Lib.hid (by rw [hS, h0]; simp)
        have e3 : ((y : Int) + (p : Int)) % 4294967296 = ((y + p : Nat) : Int) := by omega
        clear hd hq hp h0 hS
        go_wp2
        go_round
        case rel => exact ⟨k + 1, y + p, by omega, by go_num, by go_num, HN⟩
        case measure => simp [intOf]; omega
    · obtain rfl : k = n := by omega
      have HYo := HY.out
      go_wp2
      go_ret
      exact ⟨ret1 (vint (by first | rfl | (rw [HYo]; simp))), rfl⟩
/-- the bits of a layout's fields -/
def FMASK (l : Nat) : Nat := match l with
  | 1 => 4294938496
  | 2 => 4294938496
  | 3 => 4194303872
  | 4 => 33554304
  | 5 => 33525632
  | 6 => 1048448
  | 7 => 1019776
  | 8 => 4294938496
  | 9 => 4294938496
  | _ => 0
theorem mask_c (W : World) (l : Nat) (hl : l = 1 ∨ l = 2 ∨ l = 3 ∨ l = 4 ∨ l = 5 ∨ l = 6 ∨ l = 7 ∨ l = 8 ∨ l = 9) : Calls Try.prog 55 #[.int .u8 l] W fun e w' => e = .returned (.int .u32 (FMASK l : Nat)) ∧ Below W.heap.size W w' := by
  have P0 : Hid (∀ X, Calls Try.prog 58 #[.int .i64 15, .int .i64 5, .int .i64 31] X fun e w' => e = .returned (.int .u32 1015808) ∧ w' = X) := Lib.hid fun X => put_c X 15 5 31 (by decide) (by decide)
  have P1 : Hid (∀ X, Calls Try.prog 58 #[.int .i64 7, .int .i64 5, .int .i64 31] X fun e w' => e = .returned (.int .u32 3968) ∧ w' = X) := Lib.hid fun X => put_c X 7 5 31 (by decide) (by decide)
  have P2 : Hid (∀ X, Calls Try.prog 58 #[.int .i64 20, .int .i64 5, .int .i64 31] X fun e w' => e = .returned (.int .u32 32505856) ∧ w' = X) := Lib.hid fun X => put_c X 20 5 31 (by decide) (by decide)
  have P3 : Hid (∀ X, Calls Try.prog 58 #[.int .i64 27, .int .i64 5, .int .i64 31] X fun e w' => e = .returned (.int .u32 4160749568) ∧ w' = X) := Lib.hid fun X => put_c X 27 5 31 (by decide) (by decide)
  have P4 : Hid (∀ X, Calls Try.prog 58 #[.int .i64 12, .int .i64 3, .int .i64 7] X fun e w' => e = .returned (.int .u32 28672) ∧ w' = X) := Lib.hid fun X => put_c X 12 3 7 (by decide) (by decide)
  have P5 : Hid (∀ X, Calls Try.prog 58 #[.int .i64 20, .int .i64 12, .int .i64 4095] X fun e w' => e = .returned (.int .u32 4293918720) ∧ w' = X) := Lib.hid fun X => put_c X 20 12 4095 (by decide) (by decide)
  have P6 : Hid (∀ X, Calls Try.prog 58 #[.int .i64 25, .int .i64 7, .int .i64 127] X fun e w' => e = .returned (.int .u32 4261412864) ∧ w' = X) := Lib.hid fun X => put_c X 25 7 127 (by decide) (by decide)
  rcases hl with rfl | rfl | rfl | rfl | rfl | rfl | rfl | rfl | rfl
  · have C1 : Hid (∀ X, Calls Try.prog 59 #[.int .u8 1] X fun e w' => e = .returned (.agg (hasV ⟨true, false, false, false, true, false⟩)) ∧ Below X.heap.size X w') := Lib.hid fun X => fields_c X 1 (by decide)
    have o0 : bits .or .u32 1015808 3968 = 1019776 := by decide
    have o1 : bits .or .u32 1019776 4293918720 = 4294938496 := by decide
    go_enter Try.func55, Try.ntmps55
    go_wp2_with (first
      | (go_at_call 59; (with_reducible refine (C1.out _).mono ?_); rintro e w1 ⟨rfl, hb⟩; clear C1)
      | (go_at_call 58; (with_reducible refine (P0.out _).mono ?_); rintro e w2 ⟨rfl, rfl⟩)
      | (go_at_call 58; (with_reducible refine (P1.out _).mono ?_); rintro e w2 ⟨rfl, rfl⟩)
      | (go_at_call 58; (with_reducible refine (P2.out _).mono ?_); rintro e w2 ⟨rfl, rfl⟩)
      | (go_at_call 58; (with_reducible refine (P3.out _).mono ?_); rintro e w2 ⟨rfl, rfl⟩)
      | (go_at_call 58; (with_reducible refine (P4.out _).mono ?_); rintro e w2 ⟨rfl, rfl⟩)
      | (go_at_call 58; (with_reducible refine (P5.out _).mono ?_); rintro e w2 ⟨rfl, rfl⟩)
      | (go_at_call 58; (with_reducible refine (P6.out _).mono ?_); rintro e w2 ⟨rfl, rfl⟩))
    go_ret
    exact ⟨rfl, hb.alloc hb.size _⟩
  · have C1 : Hid (∀ X, Calls Try.prog 59 #[.int .u8 2] X fun e w' => e = .returned (.agg (hasV ⟨false, true, false, false, true, false⟩)) ∧ Below X.heap.size X w') := Lib.hid fun X => fields_c X 2 (by decide)
    have o0 : bits .or .u32 1015808 32505856 = 33521664 := by decide
    have o1 : bits .or .u32 33521664 4261412864 = 4294934528 := by decide
    have o2 : bits .or .u32 4294934528 3968 = 4294938496 := by decide
    go_enter Try.func55, Try.ntmps55
    go_wp2_with (first
      | (go_at_call 59; (with_reducible refine (C1.out _).mono ?_); rintro e w1 ⟨rfl, hb⟩; clear C1)
      | (go_at_call 58; (with_reducible refine (P0.out _).mono ?_); rintro e w2 ⟨rfl, rfl⟩)
      | (go_at_call 58; (with_reducible refine (P1.out _).mono ?_); rintro e w2 ⟨rfl, rfl⟩)
      | (go_at_call 58; (with_reducible refine (P2.out _).mono ?_); rintro e w2 ⟨rfl, rfl⟩)
      | (go_at_call 58; (with_reducible refine (P3.out _).mono ?_); rintro e w2 ⟨rfl, rfl⟩)
      | (go_at_call 58; (with_reducible refine (P4.out _).mono ?_); rintro e w2 ⟨rfl, rfl⟩)
      | (go_at_call 58; (with_reducible refine (P5.out _).mono ?_); rintro e w2 ⟨rfl, rfl⟩)
      | (go_at_call 58; (with_reducible refine (P6.out _).mono ?_); rintro e w2 ⟨rfl, rfl⟩))
    go_ret
    exact ⟨rfl, hb.alloc hb.size _⟩
  · have C1 : Hid (∀ X, Calls Try.prog 59 #[.int .u8 3] X fun e w' => e = .returned (.agg (hasV ⟨true, true, true, true, false, false⟩)) ∧ Below X.heap.size X w') := Lib.hid fun X => fields_c X 3 (by decide)
    have o0 : bits .or .u32 1015808 3968 = 1019776 := by decide
    have o1 : bits .or .u32 1019776 32505856 = 33525632 := by decide
    have o2 : bits .or .u32 33525632 4160749568 = 4194275200 := by decide
    have o3 : bits .or .u32 4194275200 28672 = 4194303872 := by decide
    go_enter Try.func55, Try.ntmps55
    go_wp2_with (first
      | (go_at_call 59; (with_reducible refine (C1.out _).mono ?_); rintro e w1 ⟨rfl, hb⟩; clear C1)
      | (go_at_call 58; (with_reducible refine (P0.out _).mono ?_); rintro e w2 ⟨rfl, rfl⟩)
      | (go_at_call 58; (with_reducible refine (P1.out _).mono ?_); rintro e w2 ⟨rfl, rfl⟩)
      | (go_at_call 58; (with_reducible refine (P2.out _).mono ?_); rintro e w2 ⟨rfl, rfl⟩)
      | (go_at_call 58; (with_reducible refine (P3.out _).mono ?_); rintro e w2 ⟨rfl, rfl⟩)
      | (go_at_call 58; (with_reducible refine (P4.out _).mono ?_); rintro e w2 ⟨rfl, rfl⟩)
      | (go_at_call 58; (with_reducible refine (P5.out _).mono ?_); rintro e w2 ⟨rfl, rfl⟩)
      | (go_at_call 58; (with_reducible refine (P6.out _).mono ?_); rintro e w2 ⟨rfl, rfl⟩))
    go_ret
    exact ⟨rfl, hb.alloc hb.size _⟩
  · have C1 : Hid (∀ X, Calls Try.prog 59 #[.int .u8 4] X fun e w' => e = .returned (.agg (hasV ⟨true, true, false, true, false, false⟩)) ∧ Below X.heap.size X w') := Lib.hid fun X => fields_c X 4 (by decide)
    have o0 : bits .or .u32 1015808 3968 = 1019776 := by decide
    have o1 : bits .or .u32 1019776 32505856 = 33525632 := by decide
    have o2 : bits .or .u32 33525632 28672 = 33554304 := by decide
    go_enter Try.func55, Try.ntmps55
    go_wp2_with (first
      | (go_at_call 59; (with_reducible refine (C1.out _).mono ?_); rintro e w1 ⟨rfl, hb⟩; clear C1)
      | (go_at_call 58; (with_reducible refine (P0.out _).mono ?_); rintro e w2 ⟨rfl, rfl⟩)
      | (go_at_call 58; (with_reducible refine (P1.out _).mono ?_); rintro e w2 ⟨rfl, rfl⟩)
      | (go_at_call 58; (with_reducible refine (P2.out _).mono ?_); rintro e w2 ⟨rfl, rfl⟩)
      | (go_at_call 58; (with_reducible refine (P3.out _).mono ?_); rintro e w2 ⟨rfl, rfl⟩)
      | (go_at_call 58; (with_reducible refine (P4.out _).mono ?_); rintro e w2 ⟨rfl, rfl⟩)
      | (go_at_call 58; (with_reducible refine (P5.out _).mono ?_); rintro e w2 ⟨rfl, rfl⟩)
      | (go_at_call 58; (with_reducible refine (P6.out _).mono ?_); rintro e w2 ⟨rfl, rfl⟩))
    go_ret
    exact ⟨rfl, hb.alloc hb.size _⟩
  · have C1 : Hid (∀ X, Calls Try.prog 59 #[.int .u8 5] X fun e w' => e = .returned (.agg (hasV ⟨true, true, false, false, false, false⟩)) ∧ Below X.heap.size X w') := Lib.hid fun X => fields_c X 5 (by decide)
    have o0 : bits .or .u32 1015808 3968 = 1019776 := by decide
    have o1 : bits .or .u32 1019776 32505856 = 33525632 := by decide
    go_enter Try.func55, Try.ntmps55
    go_wp2_with (first
      | (go_at_call 59; (with_reducible refine (C1.out _).mono ?_); rintro e w1 ⟨rfl, hb⟩; clear C1)
      | (go_at_call 58; (with_reducible refine (P0.out _).mono ?_); rintro e w2 ⟨rfl, rfl⟩)
      | (go_at_call 58; (with_reducible refine (P1.out _).mono ?_); rintro e w2 ⟨rfl, rfl⟩)
      | (go_at_call 58; (with_reducible refine (P2.out _).mono ?_); rintro e w2 ⟨rfl, rfl⟩)
      | (go_at_call 58; (with_reducible refine (P3.out _).mono ?_); rintro e w2 ⟨rfl, rfl⟩)
      | (go_at_call 58; (with_reducible refine (P4.out _).mono ?_); rintro e w2 ⟨rfl, rfl⟩)
      | (go_at_call 58; (with_reducible refine (P5.out _).mono ?_); rintro e w2 ⟨rfl, rfl⟩)
      | (go_at_call 58; (with_reducible refine (P6.out _).mono ?_); rintro e w2 ⟨rfl, rfl⟩))
    go_ret
    exact ⟨rfl, hb.alloc hb.size _⟩
  · have C1 : Hid (∀ X, Calls Try.prog 59 #[.int .u8 6] X fun e w' => e = .returned (.agg (hasV ⟨true, false, false, true, false, false⟩)) ∧ Below X.heap.size X w') := Lib.hid fun X => fields_c X 6 (by decide)
    have o0 : bits .or .u32 1015808 3968 = 1019776 := by decide
    have o1 : bits .or .u32 1019776 28672 = 1048448 := by decide
    go_enter Try.func55, Try.ntmps55
    go_wp2_with (first
      | (go_at_call 59; (with_reducible refine (C1.out _).mono ?_); rintro e w1 ⟨rfl, hb⟩; clear C1)
      | (go_at_call 58; (with_reducible refine (P0.out _).mono ?_); rintro e w2 ⟨rfl, rfl⟩)
      | (go_at_call 58; (with_reducible refine (P1.out _).mono ?_); rintro e w2 ⟨rfl, rfl⟩)
      | (go_at_call 58; (with_reducible refine (P2.out _).mono ?_); rintro e w2 ⟨rfl, rfl⟩)
      | (go_at_call 58; (with_reducible refine (P3.out _).mono ?_); rintro e w2 ⟨rfl, rfl⟩)
      | (go_at_call 58; (with_reducible refine (P4.out _).mono ?_); rintro e w2 ⟨rfl, rfl⟩)
      | (go_at_call 58; (with_reducible refine (P5.out _).mono ?_); rintro e w2 ⟨rfl, rfl⟩)
      | (go_at_call 58; (with_reducible refine (P6.out _).mono ?_); rintro e w2 ⟨rfl, rfl⟩))
    go_ret
    exact ⟨rfl, hb.alloc hb.size _⟩
  · have C1 : Hid (∀ X, Calls Try.prog 59 #[.int .u8 7] X fun e w' => e = .returned (.agg (hasV ⟨true, false, false, false, false, false⟩)) ∧ Below X.heap.size X w') := Lib.hid fun X => fields_c X 7 (by decide)
    have o0 : bits .or .u32 1015808 3968 = 1019776 := by decide
    go_enter Try.func55, Try.ntmps55
    go_wp2_with (first
      | (go_at_call 59; (with_reducible refine (C1.out _).mono ?_); rintro e w1 ⟨rfl, hb⟩; clear C1)
      | (go_at_call 58; (with_reducible refine (P0.out _).mono ?_); rintro e w2 ⟨rfl, rfl⟩)
      | (go_at_call 58; (with_reducible refine (P1.out _).mono ?_); rintro e w2 ⟨rfl, rfl⟩)
      | (go_at_call 58; (with_reducible refine (P2.out _).mono ?_); rintro e w2 ⟨rfl, rfl⟩)
      | (go_at_call 58; (with_reducible refine (P3.out _).mono ?_); rintro e w2 ⟨rfl, rfl⟩)
      | (go_at_call 58; (with_reducible refine (P4.out _).mono ?_); rintro e w2 ⟨rfl, rfl⟩)
      | (go_at_call 58; (with_reducible refine (P5.out _).mono ?_); rintro e w2 ⟨rfl, rfl⟩)
      | (go_at_call 58; (with_reducible refine (P6.out _).mono ?_); rintro e w2 ⟨rfl, rfl⟩))
    go_ret
    exact ⟨rfl, hb.alloc hb.size _⟩
  · have C1 : Hid (∀ X, Calls Try.prog 59 #[.int .u8 8] X fun e w' => e = .returned (.agg (hasV ⟨true, false, false, false, false, true⟩)) ∧ Below X.heap.size X w') := Lib.hid fun X => fields_c X 8 (by decide)
    have o0 : bits .or .u32 1015808 3968 = 1019776 := by decide
    have o1 : bits .or .u32 1019776 4293918720 = 4294938496 := by decide
    go_enter Try.func55, Try.ntmps55
    go_wp2_with (first
      | (go_at_call 59; (with_reducible refine (C1.out _).mono ?_); rintro e w1 ⟨rfl, hb⟩; clear C1)
      | (go_at_call 58; (with_reducible refine (P0.out _).mono ?_); rintro e w2 ⟨rfl, rfl⟩)
      | (go_at_call 58; (with_reducible refine (P1.out _).mono ?_); rintro e w2 ⟨rfl, rfl⟩)
      | (go_at_call 58; (with_reducible refine (P2.out _).mono ?_); rintro e w2 ⟨rfl, rfl⟩)
      | (go_at_call 58; (with_reducible refine (P3.out _).mono ?_); rintro e w2 ⟨rfl, rfl⟩)
      | (go_at_call 58; (with_reducible refine (P4.out _).mono ?_); rintro e w2 ⟨rfl, rfl⟩)
      | (go_at_call 58; (with_reducible refine (P5.out _).mono ?_); rintro e w2 ⟨rfl, rfl⟩)
      | (go_at_call 58; (with_reducible refine (P6.out _).mono ?_); rintro e w2 ⟨rfl, rfl⟩))
    go_ret
    exact ⟨rfl, hb.alloc hb.size _⟩
  · have C1 : Hid (∀ X, Calls Try.prog 59 #[.int .u8 9] X fun e w' => e = .returned (.agg (hasV ⟨true, false, false, false, false, true⟩)) ∧ Below X.heap.size X w') := Lib.hid fun X => fields_c X 9 (by decide)
    have o0 : bits .or .u32 1015808 3968 = 1019776 := by decide
    have o1 : bits .or .u32 1019776 4293918720 = 4294938496 := by decide
    go_enter Try.func55, Try.ntmps55
    go_wp2_with (first
      | (go_at_call 59; (with_reducible refine (C1.out _).mono ?_); rintro e w1 ⟨rfl, hb⟩; clear C1)
      | (go_at_call 58; (with_reducible refine (P0.out _).mono ?_); rintro e w2 ⟨rfl, rfl⟩)
      | (go_at_call 58; (with_reducible refine (P1.out _).mono ?_); rintro e w2 ⟨rfl, rfl⟩)
      | (go_at_call 58; (with_reducible refine (P2.out _).mono ?_); rintro e w2 ⟨rfl, rfl⟩)
      | (go_at_call 58; (with_reducible refine (P3.out _).mono ?_); rintro e w2 ⟨rfl, rfl⟩)
      | (go_at_call 58; (with_reducible refine (P4.out _).mono ?_); rintro e w2 ⟨rfl, rfl⟩)
      | (go_at_call 58; (with_reducible refine (P5.out _).mono ?_); rintro e w2 ⟨rfl, rfl⟩)
      | (go_at_call 58; (with_reducible refine (P6.out _).mono ?_); rintro e w2 ⟨rfl, rfl⟩))
    go_ret
    exact ⟨rfl, hb.alloc hb.size _⟩
end Go.Proofs.Yteelconabmfnkaa
