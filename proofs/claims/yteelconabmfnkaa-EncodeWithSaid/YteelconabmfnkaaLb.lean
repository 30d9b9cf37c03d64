/- Equality of instructions, rows, uses; how many bits (ones of chapter 25's laws). -/
import Derived.Test.YteelconabmfnkaaLa
import Derived.Test.YteelconabmfnkaaPda
namespace Go.Proofs.Yteelconabmfnkaa
open Go Go.RowKit
set_option maxHeartbeats 4000000
set_option maxRecDepth 100000
set_option linter.unusedVariables false
set_option linter.unusedSimpArgs false
theorem eqIn_inst (x y : I11) (w : World) : (Op.equalIn 10000 27 (.agg (instV x)) (.agg (instV y))).run Try.prog w = .ok (decide (x = y)) w := by
  simp [go_sem, Try.underlying27]
  repeat' split
  all_goals first
  | (rw [decide_eq_false]; rintro rfl; contradiction)
  | (rw [decide_eq_true (by cases x; cases y; simp only [I11.mk.injEq]; simp only [] at *; omega)])
theorem eq_inst (x y : I11) (w : World) : (binOp .eql 27 (.agg (instV x)) (.agg (instV y))).run Try.prog w = .ok (.bool (decide (x = y))) w := by
  rw [run_eql_struct, eqIn_inst]; rfl
theorem neq_inst (x y : I11) (w : World) : (binOp .neq 27 (.agg (instV x)) (.agg (instV y))).run Try.prog w = .ok (.bool (!decide (x = y))) w := by
  rw [run_neq_struct, eqIn_inst]; rfl
theorem eqIn_row (x y : R7) (w : World) : (Op.equalIn 10000 40 (.agg (rowV x)) (.agg (rowV y))).run Try.prog w = .ok (decide (x = y)) w := by
  simp [go_sem, Try.underlying40]
  repeat' split
  all_goals first
  | (rw [decide_eq_false]; rintro rfl; contradiction)
  | (rw [decide_eq_true (by cases x; cases y; simp only [R7.mk.injEq]; simp only [] at *; omega)])
theorem eq_row (x y : R7) (w : World) : (binOp .eql 40 (.agg (rowV x)) (.agg (rowV y))).run Try.prog w = .ok (.bool (decide (x = y))) w := by
  rw [run_eql_struct, eqIn_row]; rfl
theorem neq_row (x y : R7) (w : World) : (binOp .neq 40 (.agg (rowV x)) (.agg (rowV y))).run Try.prog w = .ok (.bool (!decide (x = y))) w := by
  rw [run_neq_struct, eqIn_row]; rfl
theorem eqIn_use (x y : U4) (w : World) : (Op.equalIn 10000 68 (.agg (useV x)) (.agg (useV y))).run Try.prog w = .ok (decide (x = y)) w := by
  simp [go_sem, Try.underlying68]
  repeat' split
  all_goals first
  | (rw [decide_eq_false]; rintro rfl; contradiction)
  | (rw [decide_eq_true (by cases x; cases y; simp only [U4.mk.injEq]; simp only [] at *; omega)])
theorem eq_use (x y : U4) (w : World) : (binOp .eql 68 (.agg (useV x)) (.agg (useV y))).run Try.prog w = .ok (.bool (decide (x = y))) w := by
  rw [run_eql_struct, eqIn_use]; rfl
/-- how many bits a number has that are set -/
def pop (x : Nat) : Nat := if x = 0 then 0 else x % 2 + pop (x / 2)
theorem pop_zero : pop 0 = 0 := by rw [pop]; rfl
theorem pop_pos {x : Nat} (h : 0 < x) : pop x = x % 2 + pop (x / 2) := by rw [pop]; rw [if_neg (by omega)]
theorem pop_le (x : Nat) : pop x ≤ x := by
  induction x using Nat.strongRecOn with
  | _ x ih =>
    rcases Nat.eq_zero_or_pos x with rfl | h
    · rw [pop_zero]; exact Nat.le_refl _
    · rw [pop_pos h]
      have := ih (x / 2) (by omega)
      omega
theorem pop_or (a b : Nat) : pop (a ||| b) ≤ pop a + pop b := by
  induction a using Nat.strongRecOn generalizing b with
  | _ a ih =>
    rcases Nat.eq_zero_or_pos a with rfl | ha
    · simp [pop_zero]
    · rcases Nat.eq_zero_or_pos b with rfl | hb
      · simp
      · have h1 : (a ||| b) / 2 = a / 2 ||| b / 2 := by
          have := Nat.shiftRight_or_distrib (a := a) (b := b) (i := 1)
          simpa [Nat.shiftRight_eq_div_pow] using this
        have h2 : (a ||| b) % 2 ≤ a % 2 + b % 2 := by
          have h3 : (a ||| b) % 2 = (a % 2) ||| (b % 2) := by
            have := Nat.or_mod_two_pow (a := a) (b := b) (n := 1)
            simpa using this
          rw [h3]
          rcases Nat.mod_two_eq_zero_or_one a with e | e <;> rcases Nat.mod_two_eq_zero_or_one b with f | f <;> rw [e, f] <;> decide
        have h4 : 0 < a ||| b := by
          have := Nat.left_le_or (n := a) (m := b)
          omega
        rw [pop_pos h4, pop_pos ha, pop_pos hb, h1]
        have := ih (a / 2) (by omega) (b / 2)
        omega
theorem pop_pow (k : Nat) : pop (2 ^ k) = 1 := by
  induction k with
  | zero => rw [pop_pos (by decide)]; show 1 % 2 + pop 0 = 1; rw [pop_zero]
  | succ k ih =>
    rw [pop_pos (Nat.pow_pos (by decide)), Nat.pow_succ, Nat.mul_mod_left, Nat.mul_div_cancel _ (by decide), ih]
theorem ones_c (W : World) (x : Nat) (hx : x < 4294967296) : Calls Try.prog 42 #[.int .u32 x] W fun e w' => e = .returned (.int .i64 (pop x : Nat)) ∧ w' = W := by
  go_enter Try.func42, Try.ntmps42
  go_wp2
  go_loop [0, 3] (fun y i => ∃ n m : Nat, y = .int .u32 m ∧ i = .int .i64 n ∧ n + pop m = pop x ∧ m ≤ x) (fun y _ => (intOf y).toNat)
  case atStart => exact ⟨0, x, rfl, rfl, by omega, Nat.le_refl _⟩
  case round =>
    obtain ⟨n, m, rfl, rfl, hp, hm⟩ := hrel
    have hl := pop_le x
    rcases Nat.eq_zero_or_pos m with rfl | hpos
    · rw [pop_zero] at hp
      go_wp2
      go_ret
      exact ⟨ret1 (vint (by omega)), rfl⟩
    · rw [pop_pos hpos] at hp
      have hn : n ≤ 4294967296 := by omega
      have HP := Lib.hid hp
      clear hp
      go_wp2
      go_round
      case rel => exact ⟨n + m % 2, m / 2, by go_num, by go_num, by have := HP.out; omega, by omega⟩
      case measure => simp [intOf]; omega
/-- P25.5, plain -/
theorem use_pop {x : I11} (h1 : x.rd < 32) : pop (USE x).rf ≤ 3 ∧ pop (USE x).rx ≤ 1 ∧ pop (USE x).wx + pop (USE x).wf ≤ 1 ∧ (pop (USE x).wx + pop (USE x).wf = 0 ↔ x.op = 2) := by
  have o1 : ∀ a b : Nat, pop (2 ^ a ||| 2 ^ b) ≤ 2 := fun a b => by have := pop_or (2 ^ a) (2 ^ b); rw [pop_pow, pop_pow] at this; exact this
  have o2 : ∀ a b c : Nat, pop ((2 ^ a ||| 2 ^ b) ||| 2 ^ c) ≤ 3 := fun a b c => by have := pop_or (2 ^ a ||| 2 ^ b) (2 ^ c); rw [pop_pow] at this; have := o1 a b; omega
  have o3 := o1 x.rs1 x.rs2
  have o4 := o2 x.rs1 x.rs2 x.rs3
  unfold USE
  repeat' split
  all_goals (simp only [pop_zero, pop_pow]; refine ⟨?_, ?_, ?_, ?_⟩ <;> first | omega | (rename_i h; exact ⟨fun _ => h, fun _ => trivial⟩))
theorem use_lt {x : I11} (h1 : x.rd < 32) (h2 : x.rs1 < 32) (h3 : x.rs2 < 32) (h4 : x.rs3 < 32) : (USE x).rx < 4294967296 ∧ (USE x).rf < 4294967296 ∧ (USE x).wx < 4294967296 ∧ (USE x).wf < 4294967296 := by
  have p1 := pow_lt32 h1 rfl
  have p2 := pow_lt32 h2 rfl
  have p3 := pow_lt32 h3 rfl
  have p4 := pow_lt32 h4 rfl
  have p5 := or_lt32 p2 p3
  have p6 := or_lt32 p5 p4
  unfold USE
  repeat' split
  all_goals (refine ⟨?_, ?_, ?_, ?_⟩ <;> first | assumption | exact Nat.zero_lt_succ _)
end Go.Proofs.Yteelconabmfnkaa
