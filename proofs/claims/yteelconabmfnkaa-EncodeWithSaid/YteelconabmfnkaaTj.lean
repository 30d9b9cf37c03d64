/- (table.spec).rows at each line of the table. -/
import Derived.Test.YteelconabmfnkaaTh
import Derived.Test.YteelconabmfnkaaTi
import Derived.Test.YteelconabmfnkaaTda
namespace Go.Proofs.Yteelconabmfnkaa
open Go Go.RowKit
set_option maxRecDepth 100000
set_option linter.unusedVariables false
theorem Iter.congr {F : Fence} {n : Nat} {P : Program} {g : Nat} {ba lb : Array Value} {encs encs' : Nat → Array Value} {len len' n₀ : Nat} {w : World} (h : Iter F n P g ba lb encs len n₀ w) (hl : len = len') (he : ∀ k, k < len → encs k = encs' k) : Iter F n P g ba lb encs' len' n₀ w := by
  subst hl
  intro l J Jx X W hb hX hJ hJx hY h0
  exact h l J Jx X W hb hX hJ hJx (fun k X W1 hk hlt => by rw [he k hlt]; exact hY k X W1 hk hlt) h0
def rowAt (s : Sp) (k : Nat) : R7 := (RL s)[k]?.getD zeroR
abbrev GivesRows (s : Sp) : Prop := ∀ (n : Nat) (hn : 2 ≤ n) (n₀ : Nat) (w : World) (hn0 : n₀ ≤ w.heap.size), Iter Fence.wide n Try.prog 64 #[.agg (specV s)] #[] (fun k => #[.agg (rowV (rowAt s k))]) (RL s).length n₀ w
theorem gives_1 : GivesRows sp1 := fun n hn n₀ w hn0 => (rows_D sp1 (by decide) (by decide) (by decide) (by decide) (by decide) (by decide) (fun W f hf => one_1 W f 0 hf (by decide)) n hn n₀ w hn0).congr (by decide +kernel) (fun k hk => by have : ∀ k, k < 4 → rowAt sp1 k = ONE sp1 k 0 := of_decide_eq_true (by kernel_rfl); show #[Value.agg (rowV _)] = #[Value.agg (rowV _)]; rw [this k hk])
theorem gives_2 : GivesRows sp2 := fun n hn n₀ w hn0 => (rows_D sp2 (by decide) (by decide) (by decide) (by decide) (by decide) (by decide) (fun W f hf => one_2 W f 0 hf (by decide)) n hn n₀ w hn0).congr (by decide +kernel) (fun k hk => by have : ∀ k, k < 4 → rowAt sp2 k = ONE sp2 k 0 := of_decide_eq_true (by kernel_rfl); show #[Value.agg (rowV _)] = #[Value.agg (rowV _)]; rw [this k hk])
theorem gives_3 : GivesRows sp3 := fun n hn n₀ w hn0 => (rows_D sp3 (by decide) (by decide) (by decide) (by decide) (by decide) (by decide) (fun W f hf => one_3 W f 0 hf (by decide)) n hn n₀ w hn0).congr (by decide +kernel) (fun k hk => by have : ∀ k, k < 4 → rowAt sp3 k = ONE sp3 k 0 := of_decide_eq_true (by kernel_rfl); show #[Value.agg (rowV _)] = #[Value.agg (rowV _)]; rw [this k hk])
theorem gives_4 : GivesRows sp4 := fun n hn n₀ w hn0 => (rows_D sp4 (by decide) (by decide) (by decide) (by decide) (by decide) (by decide) (fun W f hf => one_4 W f 0 hf (by decide)) n hn n₀ w hn0).congr (by decide +kernel) (fun k hk => by have : ∀ k, k < 4 → rowAt sp4 k = ONE sp4 k 0 := of_decide_eq_true (by kernel_rfl); show #[Value.agg (rowV _)] = #[Value.agg (rowV _)]; rw [this k hk])
theorem gives_5 : GivesRows sp5 := fun n hn n₀ w hn0 => (rows_D sp5 (by decide) (by decide) (by decide) (by decide) (by decide) (by decide) (fun W f hf => one_5 W f 0 hf (by decide)) n hn n₀ w hn0).congr (by decide +kernel) (fun k hk => by have : ∀ k, k < 4 → rowAt sp5 k = ONE sp5 k 0 := of_decide_eq_true (by kernel_rfl); show #[Value.agg (rowV _)] = #[Value.agg (rowV _)]; rw [this k hk])
theorem gives_6 : GivesRows sp6 := fun n hn n₀ w hn0 => (rows_D sp6 (by decide) (by decide) (by decide) (by decide) (by decide) (by decide) (fun W f hf => one_6 W f 0 hf (by decide)) n hn n₀ w hn0).congr (by decide +kernel) (fun k hk => by have : ∀ k, k < 4 → rowAt sp6 k = ONE sp6 k 0 := of_decide_eq_true (by kernel_rfl); show #[Value.agg (rowV _)] = #[Value.agg (rowV _)]; rw [this k hk])
theorem gives_7 : GivesRows sp7 := fun n hn n₀ w hn0 => (rows_D sp7 (by decide) (by decide) (by decide) (by decide) (by decide) (by decide) (fun W f hf => one_7 W f 0 hf (by decide)) n hn n₀ w hn0).congr (by decide +kernel) (fun k hk => by have : ∀ k, k < 4 → rowAt sp7 k = ONE sp7 k 0 := of_decide_eq_true (by kernel_rfl); show #[Value.agg (rowV _)] = #[Value.agg (rowV _)]; rw [this k hk])
theorem gives_8 : GivesRows sp8 := fun n hn n₀ w hn0 => (rows_D sp8 (by decide) (by decide) (by decide) (by decide) (by decide) (by decide) (fun W f hf => one_8 W f 0 hf (by decide)) n hn n₀ w hn0).congr (by decide +kernel) (fun k hk => by have : ∀ k, k < 4 → rowAt sp8 k = ONE sp8 k 0 := of_decide_eq_true (by kernel_rfl); show #[Value.agg (rowV _)] = #[Value.agg (rowV _)]; rw [this k hk])
theorem gives_9 : GivesRows sp9 := fun n hn n₀ w hn0 => (rows_D sp9 (by decide) (by decide) (by decide) (by decide) (by decide) (by decide) (fun W f hf => one_9 W f 0 hf (by decide)) n hn n₀ w hn0).congr (by decide +kernel) (fun k hk => by have : ∀ k, k < 4 → rowAt sp9 k = ONE sp9 k 0 := of_decide_eq_true (by kernel_rfl); show #[Value.agg (rowV _)] = #[Value.agg (rowV _)]; rw [this k hk])
theorem gives_10 : GivesRows sp10 := fun n hn n₀ w hn0 => (rows_D sp10 (by decide) (by decide) (by decide) (by decide) (by decide) (by decide) (fun W f hf => one_10 W f 0 hf (by decide)) n hn n₀ w hn0).congr (by decide +kernel) (fun k hk => by have : ∀ k, k < 4 → rowAt sp10 k = ONE sp10 k 0 := of_decide_eq_true (by kernel_rfl); show #[Value.agg (rowV _)] = #[Value.agg (rowV _)]; rw [this k hk])
theorem gives_11 : GivesRows sp11 := fun n hn n₀ w hn0 => (rows_D sp11 (by decide) (by decide) (by decide) (by decide) (by decide) (by decide) (fun W f hf => one_11 W f 0 hf (by decide)) n hn n₀ w hn0).congr (by decide +kernel) (fun k hk => by have : ∀ k, k < 4 → rowAt sp11 k = ONE sp11 k 0 := of_decide_eq_true (by kernel_rfl); show #[Value.agg (rowV _)] = #[Value.agg (rowV _)]; rw [this k hk])
theorem gives_12 : GivesRows sp12 := fun n hn n₀ w hn0 => (rows_D sp12 (by decide) (by decide) (by decide) (by decide) (by decide) (by decide) (fun W f hf => one_12 W f 0 hf (by decide)) n hn n₀ w hn0).congr (by decide +kernel) (fun k hk => by have : ∀ k, k < 4 → rowAt sp12 k = ONE sp12 k 0 := of_decide_eq_true (by kernel_rfl); show #[Value.agg (rowV _)] = #[Value.agg (rowV _)]; rw [this k hk])
theorem gives_13 : GivesRows sp13 := fun n hn n₀ w hn0 => (rows_D sp13 (by decide) (by decide) (by decide) (by decide) (by decide) (by decide) (fun W f hf => one_13 W f 0 hf (by decide)) n hn n₀ w hn0).congr (by decide +kernel) (fun k hk => by have : ∀ k, k < 4 → rowAt sp13 k = ONE sp13 k 0 := of_decide_eq_true (by kernel_rfl); show #[Value.agg (rowV _)] = #[Value.agg (rowV _)]; rw [this k hk])
theorem gives_14 : GivesRows sp14 := fun n hn n₀ w hn0 => (rows_D sp14 (by decide) (by decide) (by decide) (by decide) (by decide) (by decide) (fun W f hf => one_14 W f 0 hf (by decide)) n hn n₀ w hn0).congr (by decide +kernel) (fun k hk => by have : ∀ k, k < 4 → rowAt sp14 k = ONE sp14 k 0 := of_decide_eq_true (by kernel_rfl); show #[Value.agg (rowV _)] = #[Value.agg (rowV _)]; rw [this k hk])
theorem gives_15 : GivesRows sp15 := fun n hn n₀ w hn0 => (rows_D sp15 (by decide) (by decide) (by decide) (by decide) (by decide) (by decide) (fun W f hf => one_15 W f 0 hf (by decide)) n hn n₀ w hn0).congr (by decide +kernel) (fun k hk => by have : ∀ k, k < 4 → rowAt sp15 k = ONE sp15 k 0 := of_decide_eq_true (by kernel_rfl); show #[Value.agg (rowV _)] = #[Value.agg (rowV _)]; rw [this k hk])
theorem gives_16 : GivesRows sp16 := fun n hn n₀ w hn0 => (rows_D sp16 (by decide) (by decide) (by decide) (by decide) (by decide) (by decide) (fun W f hf => one_16 W f 0 hf (by decide)) n hn n₀ w hn0).congr (by decide +kernel) (fun k hk => by have : ∀ k, k < 4 → rowAt sp16 k = ONE sp16 k 0 := of_decide_eq_true (by kernel_rfl); show #[Value.agg (rowV _)] = #[Value.agg (rowV _)]; rw [this k hk])
theorem gives_17 : GivesRows sp17 := fun n hn n₀ w hn0 => (rows_C sp17 (by decide) (by decide) (by decide) (by decide) (by decide) (by decide) (fun W f m hf hm => one_17 W f m hf hm) n hn n₀ w hn0).congr (by decide +kernel) (fun k hk => by have : ∀ k, k < 12 → rowAt sp17 k = ONE sp17 (k / 3) (if k % 3 < k / 3 then k % 3 else k % 3 + 1) := of_decide_eq_true (by kernel_rfl); show #[Value.agg (rowV _)] = #[Value.agg (rowV _)]; rw [this k hk])
theorem gives_18 : GivesRows sp18 := fun n hn n₀ w hn0 => (rows_D sp18 (by decide) (by decide) (by decide) (by decide) (by decide) (by decide) (fun W f hf => one_18 W f 0 hf (by decide)) n hn n₀ w hn0).congr (by decide +kernel) (fun k hk => by have : ∀ k, k < 4 → rowAt sp18 k = ONE sp18 k 0 := of_decide_eq_true (by kernel_rfl); show #[Value.agg (rowV _)] = #[Value.agg (rowV _)]; rw [this k hk])
theorem gives_19 : GivesRows sp19 := fun n hn n₀ w hn0 => (rows_D sp19 (by decide) (by decide) (by decide) (by decide) (by decide) (by decide) (fun W f hf => one_19 W f 0 hf (by decide)) n hn n₀ w hn0).congr (by decide +kernel) (fun k hk => by have : ∀ k, k < 4 → rowAt sp19 k = ONE sp19 k 0 := of_decide_eq_true (by kernel_rfl); show #[Value.agg (rowV _)] = #[Value.agg (rowV _)]; rw [this k hk])
theorem gives_20 : GivesRows sp20 := fun n hn n₀ w hn0 => (rows_D sp20 (by decide) (by decide) (by decide) (by decide) (by decide) (by decide) (fun W f hf => one_20 W f 0 hf (by decide)) n hn n₀ w hn0).congr (by decide +kernel) (fun k hk => by have : ∀ k, k < 4 → rowAt sp20 k = ONE sp20 k 0 := of_decide_eq_true (by kernel_rfl); show #[Value.agg (rowV _)] = #[Value.agg (rowV _)]; rw [this k hk])
theorem gives_21 : GivesRows sp21 := fun n hn n₀ w hn0 => (rows_I sp21 (by decide) (by decide) (by decide) (by decide) (by decide) (by decide) (fun W f m hf hm => one_21 W f m hf hm) n hn n₀ w hn0).congr (by decide +kernel) (fun k hk => by have : ∀ k, k < 16 → rowAt sp21 k = ONE sp21 (k / 4) (k % 4) := of_decide_eq_true (by kernel_rfl); show #[Value.agg (rowV _)] = #[Value.agg (rowV _)]; rw [this k hk])
theorem gives_22 : GivesRows sp22 := fun n hn n₀ w hn0 => (rows_J sp22 (by decide) (by decide) (by decide) (by decide) (by decide) (by decide) (fun W f m hf hm => one_22 W f m hf hm) n hn n₀ w hn0).congr (by decide +kernel) (fun k hk => by have : ∀ k, k < 16 → rowAt sp22 k = ONE sp22 (k / 4) (k % 4) := of_decide_eq_true (by kernel_rfl); show #[Value.agg (rowV _)] = #[Value.agg (rowV _)]; rw [this k hk])
theorem gives_23 : GivesRows sp23 := fun n hn n₀ w hn0 => (rows_F sp23 (by decide) (by decide) (by decide) (by decide) (by decide) (by decide) (by decide) (fun W f hf => one_23 W f 0 hf (by decide)) n hn n₀ w hn0).congr (by decide +kernel) (fun k hk => by have : ∀ k, k < 3 → rowAt sp23 k = ONE sp23 k 0 := of_decide_eq_true (by kernel_rfl); show #[Value.agg (rowV _)] = #[Value.agg (rowV _)]; rw [this k hk])
theorem gives_24 : GivesRows sp24 := fun n hn n₀ w hn0 => (rows_E sp24 (by decide) (by decide) (by decide) (by decide) (by decide) (by decide) (by decide) (fun W f hf => one_24 W f 0 hf (by decide)) n hn n₀ w hn0).congr (by decide +kernel) (fun k hk => by have : ∀ k, k < 4 → rowAt sp24 k = ONE sp24 k 0 := of_decide_eq_true (by kernel_rfl); show #[Value.agg (rowV _)] = #[Value.agg (rowV _)]; rw [this k hk])
theorem gives_25 : GivesRows sp25 := fun n hn n₀ w hn0 => (rows_F sp25 (by decide) (by decide) (by decide) (by decide) (by decide) (by decide) (by decide) (fun W f hf => one_25 W f 0 hf (by decide)) n hn n₀ w hn0).congr (by decide +kernel) (fun k hk => by have : ∀ k, k < 3 → rowAt sp25 k = ONE sp25 k 0 := of_decide_eq_true (by kernel_rfl); show #[Value.agg (rowV _)] = #[Value.agg (rowV _)]; rw [this k hk])
theorem gives_26 : GivesRows sp26 := fun n hn n₀ w hn0 => (rows_A sp26 (by decide) (fun W f hf => one_26 W f 0 hf (by decide)) n hn n₀ w hn0).congr (by decide +kernel) (fun k hk => by have : ∀ k, k < 1 → rowAt sp26 k = ONE sp26 k 0 := of_decide_eq_true (by kernel_rfl); show #[Value.agg (rowV _)] = #[Value.agg (rowV _)]; rw [this k hk])
theorem gives_27 : GivesRows sp27 := fun n hn n₀ w hn0 => (rows_A sp27 (by decide) (fun W f hf => one_27 W f 0 hf (by decide)) n hn n₀ w hn0).congr (by decide +kernel) (fun k hk => by have : ∀ k, k < 1 → rowAt sp27 k = ONE sp27 k 0 := of_decide_eq_true (by kernel_rfl); show #[Value.agg (rowV _)] = #[Value.agg (rowV _)]; rw [this k hk])
theorem gives_28 : GivesRows sp28 := fun n hn n₀ w hn0 => (rows_A sp28 (by decide) (fun W f hf => one_28 W f 0 hf (by decide)) n hn n₀ w hn0).congr (by decide +kernel) (fun k hk => by have : ∀ k, k < 1 → rowAt sp28 k = ONE sp28 k 0 := of_decide_eq_true (by kernel_rfl); show #[Value.agg (rowV _)] = #[Value.agg (rowV _)]; rw [this k hk])
theorem gives_29 : GivesRows sp29 := fun n hn n₀ w hn0 => (rows_B sp29 (by decide) (by decide) (fun W f hf => one_29 W f 0 hf (by decide)) n hn n₀ w hn0).congr (by decide +kernel) (fun k hk => by have : ∀ k, k < 1 → rowAt sp29 k = ONE sp29 k 0 := of_decide_eq_true (by kernel_rfl); show #[Value.agg (rowV _)] = #[Value.agg (rowV _)]; rw [this k hk])
theorem gives_30 : GivesRows sp30 := fun n hn n₀ w hn0 => (rows_B sp30 (by decide) (by decide) (fun W f hf => one_30 W f 0 hf (by decide)) n hn n₀ w hn0).congr (by decide +kernel) (fun k hk => by have : ∀ k, k < 1 → rowAt sp30 k = ONE sp30 k 0 := of_decide_eq_true (by kernel_rfl); show #[Value.agg (rowV _)] = #[Value.agg (rowV _)]; rw [this k hk])
theorem gives_31 : GivesRows sp31 := fun n hn n₀ w hn0 => (rows_B sp31 (by decide) (by decide) (fun W f hf => one_31 W f 0 hf (by decide)) n hn n₀ w hn0).congr (by decide +kernel) (fun k hk => by have : ∀ k, k < 1 → rowAt sp31 k = ONE sp31 k 0 := of_decide_eq_true (by kernel_rfl); show #[Value.agg (rowV _)] = #[Value.agg (rowV _)]; rw [this k hk])
theorem gives_all : ∀ s ∈ SPECS, GivesRows s := by
  intro s hs
  simp only [SPECS, List.mem_cons, List.not_mem_nil, or_false] at hs
  rcases hs with rfl | rfl | rfl | rfl | rfl | rfl | rfl | rfl | rfl | rfl | rfl | rfl | rfl | rfl | rfl | rfl | rfl | rfl | rfl | rfl | rfl | rfl | rfl | rfl | rfl | rfl | rfl | rfl | rfl | rfl | rfl
  · exact gives_1
  · exact gives_2
  · exact gives_3
  · exact gives_4
  · exact gives_5
  · exact gives_6
  · exact gives_7
  · exact gives_8
  · exact gives_9
  · exact gives_10
  · exact gives_11
  · exact gives_12
  · exact gives_13
  · exact gives_14
  · exact gives_15
  · exact gives_16
  · exact gives_17
  · exact gives_18
  · exact gives_19
  · exact gives_20
  · exact gives_21
  · exact gives_22
  · exact gives_23
  · exact gives_24
  · exact gives_25
  · exact gives_26
  · exact gives_27
  · exact gives_28
  · exact gives_29
  · exact gives_30
  · exact gives_31
end Go.Proofs.Yteelconabmfnkaa
