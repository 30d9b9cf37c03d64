/- abacusref25: field, signed, put, Fields. -/
import Derived.Test.YteelconabmfnkaaVi
import Derived.Test.YteelconabmfnkaaPda
namespace Go.Proofs.Yteelconabmfnkaa
open Go Go.RowKit
set_option maxHeartbeats 4000000
set_option maxRecDepth 100000
set_option linter.unusedVariables false
set_option linter.unusedSimpArgs false
theorem field_step (w m t : Nat) : w / 2 ^ m % 2 ^ (t + 1) = 2 * (w / 2 ^ (m + 1) % 2 ^ t) + w / 2 ^ m % 2 := by
  have h1 : w / 2 ^ (m + 1) = w / 2 ^ m / 2 := by rw [Nat.pow_succ, ← Nat.div_div_eq_div_mul]
  rw [h1, Nat.pow_succ, Nat.mul_comm (2 ^ t) 2, Nat.mod_mul]
  omega
theorem and_one (y : Nat) (hy : y < 4294967296) : bits .and .u32 (y : Int) 1 = ((y % 2 : Nat) : Int) := by
  rw [show (1 : Int) = ((1 : Nat) : Int) from rfl, and32 _ 1 hy (by decide)]
  congr 1
  exact Nat.and_two_pow_sub_one_eq_mod y 1
theorem field_c (W : World) (w low n : Nat) (hw : w < 4294967296) (hln : low + n ≤ 32) :
    Calls Try.prog 69 #[.int .u32 w, .int .i64 low, .int .i64 n] W fun e w' => e = .returned (.int .i64 (w / 2 ^ low % 2 ^ n : Nat)) ∧ w' = W := by
  have H0 : Hid (0 = w / 2 ^ (low + n) % 2 ^ (n - n)) := Lib.hid (by rw [Nat.sub_self]; simp [Nat.mod_one])
  go_enter Try.func69, Try.ntmps69
  go_wp2
  go_loop [7, 8] (fun x i => ∃ j y : Nat, j ≤ n ∧ i = .int .i64 ((j : Int) - 1) ∧ x = .int .i64 (y : Nat) ∧ Hid (y = w / 2 ^ (low + j) % 2 ^ (n - j))) (fun _ i => (intOf i + 1).toNat)
  case atStart => exact ⟨n, 0, Nat.le_refl _, rfl, rfl, H0⟩
  case round =>
    obtain ⟨j, y, hj, rfl, rfl, HY⟩ := hrel
    clear H0
    rcases Nat.eq_zero_or_pos j with h0 | hpos
    · have HY2 : Hid (y = w / 2 ^ low % 2 ^ n) := Lib.hid (by have := HY.out; rw [h0] at this; simpa using this)
      have hz : (j : Int) - 1 = -1 := by omega
      rw [hz]
      clear hz h0 hj HY
      go_wp2
      go_ret
      exact ⟨ret1 (vint (by rw [HY2.out]; simp)), rfl⟩
    · obtain ⟨m, hm⟩ : ∃ m, j - 1 = m := ⟨_, rfl⟩
      obtain ⟨z, hz⟩ : ∃ z : Int, (j : Int) - 1 = z := ⟨_, rfl⟩
      have hzm : z = (m : Int) := by omega
      rw [hz]
      subst hzm
      obtain ⟨q, hq⟩ : ∃ q, low + m = q := ⟨_, rfl⟩
      have hqi : (low : Int) + (m : Int) = (q : Int) := by omega
      have hq32 : q < 32 := by omega
      obtain ⟨d, hd⟩ : ∃ d, w / 2 ^ q % 2 = d := ⟨_, rfl⟩
      have e1 := and_bit w q hw
      rw [hd] at e1
      have hd2 : d < 2 := by omega
      have hy32 : y < 4294967296 := by
        have h := HY.out
        have : w / 2 ^ (low + j) % 2 ^ (n - j) ≤ w / 2 ^ (low + j) := Nat.mod_le _ _
        have h3 : w / 2 ^ (low + j) ≤ w := Nat.div_le_self _ _
        omega
      have HN : Hid (2 * y + d = w / 2 ^ (low + m) % 2 ^ (n - m)) := Lib.hid (by
        have h1 := field_step w (low + m) (n - j)
        rw [show n - j + 1 = n - m by omega, show low + m + 1 = low + j by omega, ← HY.out, hq, hd] at h1
        rw [hq]; exact h1.symm)
      have HM := Lib.hid hm
      have HZ := Lib.hid hz
      clear hq hd hm hz
      go_wp2
      go_round
      case rel => exact ⟨m, 2 * y + d, by have := HM.out; omega, by go_num, by go_num, HN⟩
      case measure => first | (simp [intOf]; done) | (simp [intOf]; have := HM.out; omega)
theorem signed_c (W : World) (x : Nat) (hx : x < 4096) : Calls Try.prog 70 #[.int .i64 x] W fun e w' => e = .returned (.int .i16 (s12 x)) ∧ w' = W := by
  have hb : ∀ z : Int, -32768 ≤ z → z < 32768 → IntKind.i16.wrap z = z := fun z h1 h2 => by simp only [IntKind.wrap, IntKind.signed, IntKind.bits]; simp; omega
  by_cases h : 2048 ≤ x
  · have e1 : s12 x = (x : Int) - 4096 := by unfold s12; rw [if_neg (by omega)]
    have e2 := hb ((x : Int) - 4096) (by omega) (by omega)
    rw [e1]
    clear e1
    go_enter Try.func70, Try.ntmps70
    go_wp2
    go_ret
    first
    | exact ⟨rfl, rfl⟩
    | exact ⟨ret1 (vint (by omega)), rfl⟩
  · have e1 : s12 x = (x : Int) := by unfold s12; rw [if_pos (by omega)]
    have e2 := hb (x : Int) (by omega) (by omega)
    rw [e1]
    clear e1
    go_enter Try.func70, Try.ntmps70
    go_wp2
    go_ret
    first
    | exact ⟨rfl, rfl⟩
    | exact ⟨ret1 (vint (by omega)), rfl⟩
/-- which fields a layout has -/
structure H6 where
  rd : Bool
  rs2 : Bool
  rs3 : Bool
  rm : Bool
  imm : Bool
  csr : Bool
abbrev hasV (h : H6) : Array Value := #[.bool h.rd, .bool h.rs2, .bool h.rs3, .bool h.rm, .bool h.imm, .bool h.csr]
def HAS (l : Nat) : H6 := match l with
  | 1 => ⟨true, false, false, false, true, false⟩
  | 2 => ⟨false, true, false, false, true, false⟩
  | 3 => ⟨true, true, true, true, false, false⟩
  | 4 => ⟨true, true, false, true, false, false⟩
  | 5 => ⟨true, true, false, false, false, false⟩
  | 6 => ⟨true, false, false, true, false, false⟩
  | 8 => ⟨true, false, false, false, false, true⟩
  | 9 => ⟨true, false, false, false, false, true⟩
  | _ => ⟨true, false, false, false, false, false⟩
theorem fields_c (W : World) (l : Nat) (hl : l = 1 ∨ l = 2 ∨ l = 3 ∨ l = 4 ∨ l = 5 ∨ l = 6 ∨ l = 7 ∨ l = 8 ∨ l = 9) : Calls Try.prog 59 #[.int .u8 l] W fun e w' => e = .returned (.agg (hasV (HAS l))) ∧ Below W.heap.size W w' := by
  rcases hl with rfl | rfl | rfl | rfl | rfl | rfl | rfl | rfl | rfl
  all_goals
    have k0 := Blk.new W (hasV ⟨false, false, false, false, false, false⟩) 106
    go_enter Try.func59, Try.ntmps59
    go_wp2_with (first
      | (refine wpList_store_blk rfl _ _ _ rfl _ _ rfl rfl _ _ k0 (by kernel_rfl) rfl (by simp [Value.oneCell']) ?_))
    exact bodyPost_ret (results_cell rfl _ _ W.heap.size _ _ _ rfl (k0.row _) Try.underlying106 rfl (by kernel_rfl)) rfl ⟨rfl, below_setRow ((Below.refl W.heap.size W).alloc (Nat.le_refl _) _) (Nat.le_refl _) _⟩
end Go.Proofs.Yteelconabmfnkaa
