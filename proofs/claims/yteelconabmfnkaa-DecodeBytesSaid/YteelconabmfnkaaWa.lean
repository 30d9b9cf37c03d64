/- table: size, letter, kindName, label. -/
import Derived.Test.YteelconabmfnkaaVb
import Derived.Test.YteelconabmfnkaaTh
namespace Go.Proofs.Yteelconabmfnkaa
open Go Go.RowKit
set_option maxHeartbeats 4000000
set_option maxRecDepth 100000
set_option linter.unusedVariables false
set_option linter.unusedSimpArgs false

theorem tletter_c (w : World) (f : Nat) (hf : f < 4) : Calls Try.prog 101 #[.int .u8 f] w fun e w' => e = .returned (.string (LET f)) ∧ w' = w := by
  rcases (by omega : f = 0 ∨ f = 1 ∨ f = 2 ∨ f = 3) with rfl | rfl | rfl | rfl
  all_goals
    go_enter Try.func101, Try.ntmps101
    go_wp2
    go_ret
    exact ⟨rfl, rfl⟩

theorem tsize_c (w : World) (f : Nat) (hf : f < 4) : Calls Try.prog 100 #[.int .u8 f] w fun e w' => e = .returned (.string (SIZ f)) ∧ w' = w := by
  rcases (by omega : f = 0 ∨ f = 1 ∨ f = 2 ∨ f = 3) with rfl | rfl | rfl | rfl
  all_goals
    go_enter Try.func100, Try.ntmps100
    go_wp2
    go_ret
    exact ⟨rfl, rfl⟩

theorem tkind_c (w : World) (f : Nat) (hf : f < 4) : Calls Try.prog 102 #[.int .u8 f] w fun e w' => e = .returned (.string (KIN f)) ∧ w' = w := by
  rcases (by omega : f = 0 ∨ f = 1 ∨ f = 2 ∨ f = 3) with rfl | rfl | rfl | rfl
  · have hix : ∀ w, (Instr.index 148 (.agg #[.string ⟨#[119]⟩, .string ⟨#[119, 117]⟩, .string ⟨#[108]⟩, .string ⟨#[108, 117]⟩]) (.int .u8 0)).run Try.prog w = .ok (.string ⟨#[119]⟩) w := fun w => by kernel_rfl
    go_enter Try.func102, Try.ntmps102
    go_wp2
    go_ret
    exact ⟨rfl, rfl⟩
  · have hix : ∀ w, (Instr.index 148 (.agg #[.string ⟨#[119]⟩, .string ⟨#[119, 117]⟩, .string ⟨#[108]⟩, .string ⟨#[108, 117]⟩]) (.int .u8 1)).run Try.prog w = .ok (.string ⟨#[119, 117]⟩) w := fun w => by kernel_rfl
    go_enter Try.func102, Try.ntmps102
    go_wp2
    go_ret
    exact ⟨rfl, rfl⟩
  · have hix : ∀ w, (Instr.index 148 (.agg #[.string ⟨#[119]⟩, .string ⟨#[119, 117]⟩, .string ⟨#[108]⟩, .string ⟨#[108, 117]⟩]) (.int .u8 2)).run Try.prog w = .ok (.string ⟨#[108]⟩) w := fun w => by kernel_rfl
    go_enter Try.func102, Try.ntmps102
    go_wp2
    go_ret
    exact ⟨rfl, rfl⟩
  · have hix : ∀ w, (Instr.index 148 (.agg #[.string ⟨#[119]⟩, .string ⟨#[119, 117]⟩, .string ⟨#[108]⟩, .string ⟨#[108, 117]⟩]) (.int .u8 3)).run Try.prog w = .ok (.string ⟨#[108, 117]⟩) w := fun w => by kernel_rfl
    go_enter Try.func102, Try.ntmps102
    go_wp2
    go_ret
    exact ⟨rfl, rfl⟩

theorem lab_1 (W : World) (name : ByteArray) (code : Nat) (top rm rs2 : Int) (lay rop f g k mask mtch rlay : Nat) (hf : f < 4) (hg : g < 4) (hk : k < 4) (hn : name.size ≤ 6) : Calls Try.prog 88 #[.agg (specV ⟨1, name, code, top, rm, rs2, lay⟩), .agg (rowV ⟨rop, f, g, k, mask, mtch, rlay⟩)] W fun e w' => e = .returned (.string (name ++ (SIZ f))) ∧ Below W.heap.size W w' := by
  obtain ⟨s0, hs0⟩ : ∃ s, name ++ (SIZ f) = s := ⟨_, rfl⟩
  have cs0 : ∀ X : World, (Op.stringOp .add name (SIZ f)).run Try.prog X = .ok (.string s0) X := fun X => by rw [← hs0]; exact run_string_add_sum X _ _ (by have := hn; have := (Nat.le_of_eq (SIZ_size f)); omega)
  have hz0 : s0.size ≤ 8 := by rw [← hs0, ByteArray.size_append]; have := hn; have := (Nat.le_of_eq (SIZ_size f)); omega
  have HN : Hid ((name ++ (SIZ f)) = s0) := Lib.hid (by rw [hs0])
  clear hs0
  have B0 := Lib.hid (((Below.refl W.heap.size W).alloc (Nat.le_refl _) (.cells (specV ⟨1, name, code, top, rm, rs2, lay⟩) 116)).alloc (by simp) (.cells (rowV ⟨rop, f, g, k, mask, mtch, rlay⟩) 40))
  go_enter Try.func88, Try.ntmps88
  go_wp2
  go_quiet (first | (go_at_call 100; exact Calls.quiet_of_same (tsize_c _ f hf)) | (go_at_call 101; exact Calls.quiet_of_same (tletter_c _ f hf)) | (go_at_call 101; exact Calls.quiet_of_same (tletter_c _ g hg)) | (go_at_call 102; exact Calls.quiet_of_same (tkind_c _ k hk)))
  go_wp2
  go_ret
  rw [HN.out]
  exact ⟨rfl, below_drewN B0.out⟩
theorem lab_2 (W : World) (name : ByteArray) (code : Nat) (top rm rs2 : Int) (lay rop f g k mask mtch rlay : Nat) (hf : f < 4) (hg : g < 4) (hk : k < 4) (hn : name.size ≤ 6) : Calls Try.prog 88 #[.agg (specV ⟨2, name, code, top, rm, rs2, lay⟩), .agg (rowV ⟨rop, f, g, k, mask, mtch, rlay⟩)] W fun e w' => e = .returned (.string (name ++ (SIZ f))) ∧ Below W.heap.size W w' := by
  obtain ⟨s0, hs0⟩ : ∃ s, name ++ (SIZ f) = s := ⟨_, rfl⟩
  have cs0 : ∀ X : World, (Op.stringOp .add name (SIZ f)).run Try.prog X = .ok (.string s0) X := fun X => by rw [← hs0]; exact run_string_add_sum X _ _ (by have := hn; have := (Nat.le_of_eq (SIZ_size f)); omega)
  have hz0 : s0.size ≤ 8 := by rw [← hs0, ByteArray.size_append]; have := hn; have := (Nat.le_of_eq (SIZ_size f)); omega
  have HN : Hid ((name ++ (SIZ f)) = s0) := Lib.hid (by rw [hs0])
  clear hs0
  have B0 := Lib.hid (((Below.refl W.heap.size W).alloc (Nat.le_refl _) (.cells (specV ⟨2, name, code, top, rm, rs2, lay⟩) 116)).alloc (by simp) (.cells (rowV ⟨rop, f, g, k, mask, mtch, rlay⟩) 40))
  go_enter Try.func88, Try.ntmps88
  go_wp2
  go_quiet (first | (go_at_call 100; exact Calls.quiet_of_same (tsize_c _ f hf)) | (go_at_call 101; exact Calls.quiet_of_same (tletter_c _ f hf)) | (go_at_call 101; exact Calls.quiet_of_same (tletter_c _ g hg)) | (go_at_call 102; exact Calls.quiet_of_same (tkind_c _ k hk)))
  go_wp2
  go_ret
  rw [HN.out]
  exact ⟨rfl, below_drewN B0.out⟩
theorem lab_17 (W : World) (name : ByteArray) (code : Nat) (top rm rs2 : Int) (lay rop f g k mask mtch rlay : Nat) (hf : f < 4) (hg : g < 4) (hk : k < 4) (hn : name.size ≤ 6) : Calls Try.prog 88 #[.agg (specV ⟨17, name, code, top, rm, rs2, lay⟩), .agg (rowV ⟨rop, f, g, k, mask, mtch, rlay⟩)] W fun e w' => e = .returned (.string ((((name ++ (⟨#[46]⟩ : ByteArray)) ++ (LET f)) ++ (⟨#[46]⟩ : ByteArray)) ++ (LET g))) ∧ Below W.heap.size W w' := by
  obtain ⟨s0, hs0⟩ : ∃ s, name ++ (⟨#[46]⟩ : ByteArray) = s := ⟨_, rfl⟩
  have cs0 : ∀ X : World, (Op.stringOp .add name (⟨#[46]⟩ : ByteArray)).run Try.prog X = .ok (.string s0) X := fun X => by rw [← hs0]; exact run_string_add_sum X _ _ (by have := hn; have := (by decide : (⟨#[46]⟩ : ByteArray).size ≤ 2); omega)
  have hz0 : s0.size ≤ 8 := by rw [← hs0, ByteArray.size_append]; have := hn; have := (by decide : (⟨#[46]⟩ : ByteArray).size ≤ 2); omega
  obtain ⟨s1, hs1⟩ : ∃ s, s0 ++ (LET f) = s := ⟨_, rfl⟩
  have cs1 : ∀ X : World, (Op.stringOp .add s0 (LET f)).run Try.prog X = .ok (.string s1) X := fun X => by rw [← hs1]; exact run_string_add_sum X _ _ (by have := hz0; have := (Nat.le_of_eq (LET_size f)); omega)
  have hz1 : s1.size ≤ 10 := by rw [← hs1, ByteArray.size_append]; have := hz0; have := (Nat.le_of_eq (LET_size f)); omega
  obtain ⟨s2, hs2⟩ : ∃ s, s1 ++ (⟨#[46]⟩ : ByteArray) = s := ⟨_, rfl⟩
  have cs2 : ∀ X : World, (Op.stringOp .add s1 (⟨#[46]⟩ : ByteArray)).run Try.prog X = .ok (.string s2) X := fun X => by rw [← hs2]; exact run_string_add_sum X _ _ (by have := hz1; have := (by decide : (⟨#[46]⟩ : ByteArray).size ≤ 2); omega)
  have hz2 : s2.size ≤ 12 := by rw [← hs2, ByteArray.size_append]; have := hz1; have := (by decide : (⟨#[46]⟩ : ByteArray).size ≤ 2); omega
  obtain ⟨s3, hs3⟩ : ∃ s, s2 ++ (LET g) = s := ⟨_, rfl⟩
  have cs3 : ∀ X : World, (Op.stringOp .add s2 (LET g)).run Try.prog X = .ok (.string s3) X := fun X => by rw [← hs3]; exact run_string_add_sum X _ _ (by have := hz2; have := (Nat.le_of_eq (LET_size g)); omega)
  have hz3 : s3.size ≤ 14 := by rw [← hs3, ByteArray.size_append]; have := hz2; have := (Nat.le_of_eq (LET_size g)); omega
  have HN : Hid (((((name ++ (⟨#[46]⟩ : ByteArray)) ++ (LET f)) ++ (⟨#[46]⟩ : ByteArray)) ++ (LET g)) = s3) := Lib.hid (by rw [hs0, hs1, hs2, hs3])
  clear hs0 hs1 hs2 hs3
  have B0 := Lib.hid (((Below.refl W.heap.size W).alloc (Nat.le_refl _) (.cells (specV ⟨17, name, code, top, rm, rs2, lay⟩) 116)).alloc (by simp) (.cells (rowV ⟨rop, f, g, k, mask, mtch, rlay⟩) 40))
  go_enter Try.func88, Try.ntmps88
  go_wp2
  go_quiet (first | (go_at_call 100; exact Calls.quiet_of_same (tsize_c _ f hf)) | (go_at_call 101; exact Calls.quiet_of_same (tletter_c _ f hf)) | (go_at_call 101; exact Calls.quiet_of_same (tletter_c _ g hg)) | (go_at_call 102; exact Calls.quiet_of_same (tkind_c _ k hk)))
  go_wp2
  go_ret
  rw [HN.out]
  exact ⟨rfl, below_drewN B0.out⟩
theorem lab_21 (W : World) (name : ByteArray) (code : Nat) (top rm rs2 : Int) (lay rop f g k mask mtch rlay : Nat) (hf : f < 4) (hg : g < 4) (hk : k < 4) (hn : name.size ≤ 6) : Calls Try.prog 88 #[.agg (specV ⟨21, name, code, top, rm, rs2, lay⟩), .agg (rowV ⟨rop, f, g, k, mask, mtch, rlay⟩)] W fun e w' => e = .returned (.string ((((name ++ (⟨#[46]⟩ : ByteArray)) ++ (KIN k)) ++ (⟨#[46]⟩ : ByteArray)) ++ (LET f))) ∧ Below W.heap.size W w' := by
  obtain ⟨s0, hs0⟩ : ∃ s, name ++ (⟨#[46]⟩ : ByteArray) = s := ⟨_, rfl⟩
  have cs0 : ∀ X : World, (Op.stringOp .add name (⟨#[46]⟩ : ByteArray)).run Try.prog X = .ok (.string s0) X := fun X => by rw [← hs0]; exact run_string_add_sum X _ _ (by have := hn; have := (by decide : (⟨#[46]⟩ : ByteArray).size ≤ 2); omega)
  have hz0 : s0.size ≤ 8 := by rw [← hs0, ByteArray.size_append]; have := hn; have := (by decide : (⟨#[46]⟩ : ByteArray).size ≤ 2); omega
  obtain ⟨s1, hs1⟩ : ∃ s, s0 ++ (KIN k) = s := ⟨_, rfl⟩
  have cs1 : ∀ X : World, (Op.stringOp .add s0 (KIN k)).run Try.prog X = .ok (.string s1) X := fun X => by rw [← hs1]; exact run_string_add_sum X _ _ (by have := hz0; have := (KIN_size k); omega)
  have hz1 : s1.size ≤ 10 := by rw [← hs1, ByteArray.size_append]; have := hz0; have := (KIN_size k); omega
  obtain ⟨s2, hs2⟩ : ∃ s, s1 ++ (⟨#[46]⟩ : ByteArray) = s := ⟨_, rfl⟩
  have cs2 : ∀ X : World, (Op.stringOp .add s1 (⟨#[46]⟩ : ByteArray)).run Try.prog X = .ok (.string s2) X := fun X => by rw [← hs2]; exact run_string_add_sum X _ _ (by have := hz1; have := (by decide : (⟨#[46]⟩ : ByteArray).size ≤ 2); omega)
  have hz2 : s2.size ≤ 12 := by rw [← hs2, ByteArray.size_append]; have := hz1; have := (by decide : (⟨#[46]⟩ : ByteArray).size ≤ 2); omega
  obtain ⟨s3, hs3⟩ : ∃ s, s2 ++ (LET f) = s := ⟨_, rfl⟩
  have cs3 : ∀ X : World, (Op.stringOp .add s2 (LET f)).run Try.prog X = .ok (.string s3) X := fun X => by rw [← hs3]; exact run_string_add_sum X _ _ (by have := hz2; have := (Nat.le_of_eq (LET_size f)); omega)
  have hz3 : s3.size ≤ 14 := by rw [← hs3, ByteArray.size_append]; have := hz2; have := (Nat.le_of_eq (LET_size f)); omega
  have HN : Hid (((((name ++ (⟨#[46]⟩ : ByteArray)) ++ (KIN k)) ++ (⟨#[46]⟩ : ByteArray)) ++ (LET f)) = s3) := Lib.hid (by rw [hs0, hs1, hs2, hs3])
  clear hs0 hs1 hs2 hs3
  have B0 := Lib.hid (((Below.refl W.heap.size W).alloc (Nat.le_refl _) (.cells (specV ⟨21, name, code, top, rm, rs2, lay⟩) 116)).alloc (by simp) (.cells (rowV ⟨rop, f, g, k, mask, mtch, rlay⟩) 40))
  go_enter Try.func88, Try.ntmps88
  go_wp2
  go_quiet (first | (go_at_call 100; exact Calls.quiet_of_same (tsize_c _ f hf)) | (go_at_call 101; exact Calls.quiet_of_same (tletter_c _ f hf)) | (go_at_call 101; exact Calls.quiet_of_same (tletter_c _ g hg)) | (go_at_call 102; exact Calls.quiet_of_same (tkind_c _ k hk)))
  go_wp2
  go_ret
  rw [HN.out]
  exact ⟨rfl, below_drewN B0.out⟩
theorem lab_22 (W : World) (name : ByteArray) (code : Nat) (top rm rs2 : Int) (lay rop f g k mask mtch rlay : Nat) (hf : f < 4) (hg : g < 4) (hk : k < 4) (hn : name.size ≤ 6) : Calls Try.prog 88 #[.agg (specV ⟨22, name, code, top, rm, rs2, lay⟩), .agg (rowV ⟨rop, f, g, k, mask, mtch, rlay⟩)] W fun e w' => e = .returned (.string ((((name ++ (⟨#[46]⟩ : ByteArray)) ++ (LET f)) ++ (⟨#[46]⟩ : ByteArray)) ++ (KIN k))) ∧ Below W.heap.size W w' := by
  obtain ⟨s0, hs0⟩ : ∃ s, name ++ (⟨#[46]⟩ : ByteArray) = s := ⟨_, rfl⟩
  have cs0 : ∀ X : World, (Op.stringOp .add name (⟨#[46]⟩ : ByteArray)).run Try.prog X = .ok (.string s0) X := fun X => by rw [← hs0]; exact run_string_add_sum X _ _ (by have := hn; have := (by decide : (⟨#[46]⟩ : ByteArray).size ≤ 2); omega)
  have hz0 : s0.size ≤ 8 := by rw [← hs0, ByteArray.size_append]; have := hn; have := (by decide : (⟨#[46]⟩ : ByteArray).size ≤ 2); omega
  obtain ⟨s1, hs1⟩ : ∃ s, s0 ++ (LET f) = s := ⟨_, rfl⟩
  have cs1 : ∀ X : World, (Op.stringOp .add s0 (LET f)).run Try.prog X = .ok (.string s1) X := fun X => by rw [← hs1]; exact run_string_add_sum X _ _ (by have := hz0; have := (Nat.le_of_eq (LET_size f)); omega)
  have hz1 : s1.size ≤ 10 := by rw [← hs1, ByteArray.size_append]; have := hz0; have := (Nat.le_of_eq (LET_size f)); omega
  obtain ⟨s2, hs2⟩ : ∃ s, s1 ++ (⟨#[46]⟩ : ByteArray) = s := ⟨_, rfl⟩
  have cs2 : ∀ X : World, (Op.stringOp .add s1 (⟨#[46]⟩ : ByteArray)).run Try.prog X = .ok (.string s2) X := fun X => by rw [← hs2]; exact run_string_add_sum X _ _ (by have := hz1; have := (by decide : (⟨#[46]⟩ : ByteArray).size ≤ 2); omega)
  have hz2 : s2.size ≤ 12 := by rw [← hs2, ByteArray.size_append]; have := hz1; have := (by decide : (⟨#[46]⟩ : ByteArray).size ≤ 2); omega
  obtain ⟨s3, hs3⟩ : ∃ s, s2 ++ (KIN k) = s := ⟨_, rfl⟩
  have cs3 : ∀ X : World, (Op.stringOp .add s2 (KIN k)).run Try.prog X = .ok (.string s3) X := fun X => by rw [← hs3]; exact run_string_add_sum X _ _ (by have := hz2; have := (KIN_size k); omega)
  have hz3 : s3.size ≤ 14 := by rw [← hs3, ByteArray.size_append]; have := hz2; have := (KIN_size k); omega
  have HN : Hid (((((name ++ (⟨#[46]⟩ : ByteArray)) ++ (LET f)) ++ (⟨#[46]⟩ : ByteArray)) ++ (KIN k)) = s3) := Lib.hid (by rw [hs0, hs1, hs2, hs3])
  clear hs0 hs1 hs2 hs3
  have B0 := Lib.hid (((Below.refl W.heap.size W).alloc (Nat.le_refl _) (.cells (specV ⟨22, name, code, top, rm, rs2, lay⟩) 116)).alloc (by simp) (.cells (rowV ⟨rop, f, g, k, mask, mtch, rlay⟩) 40))
  go_enter Try.func88, Try.ntmps88
  go_wp2
  go_quiet (first | (go_at_call 100; exact Calls.quiet_of_same (tsize_c _ f hf)) | (go_at_call 101; exact Calls.quiet_of_same (tletter_c _ f hf)) | (go_at_call 101; exact Calls.quiet_of_same (tletter_c _ g hg)) | (go_at_call 102; exact Calls.quiet_of_same (tkind_c _ k hk)))
  go_wp2
  go_ret
  rw [HN.out]
  exact ⟨rfl, below_drewN B0.out⟩
theorem lab_23 (W : World) (name : ByteArray) (code : Nat) (top rm rs2 : Int) (lay rop f g k mask mtch rlay : Nat) (hf : f < 4) (hg : g < 4) (hk : k < 4) (hn : name.size ≤ 6) : Calls Try.prog 88 #[.agg (specV ⟨23, name, code, top, rm, rs2, lay⟩), .agg (rowV ⟨rop, f, g, k, mask, mtch, rlay⟩)] W fun e w' => e = .returned (.string ((name ++ (⟨#[46]⟩ : ByteArray)) ++ (SIZ f))) ∧ Below W.heap.size W w' := by
  obtain ⟨s0, hs0⟩ : ∃ s, name ++ (⟨#[46]⟩ : ByteArray) = s := ⟨_, rfl⟩
  have cs0 : ∀ X : World, (Op.stringOp .add name (⟨#[46]⟩ : ByteArray)).run Try.prog X = .ok (.string s0) X := fun X => by rw [← hs0]; exact run_string_add_sum X _ _ (by have := hn; have := (by decide : (⟨#[46]⟩ : ByteArray).size ≤ 2); omega)
  have hz0 : s0.size ≤ 8 := by rw [← hs0, ByteArray.size_append]; have := hn; have := (by decide : (⟨#[46]⟩ : ByteArray).size ≤ 2); omega
  obtain ⟨s1, hs1⟩ : ∃ s, s0 ++ (SIZ f) = s := ⟨_, rfl⟩
  have cs1 : ∀ X : World, (Op.stringOp .add s0 (SIZ f)).run Try.prog X = .ok (.string s1) X := fun X => by rw [← hs1]; exact run_string_add_sum X _ _ (by have := hz0; have := (Nat.le_of_eq (SIZ_size f)); omega)
  have hz1 : s1.size ≤ 10 := by rw [← hs1, ByteArray.size_append]; have := hz0; have := (Nat.le_of_eq (SIZ_size f)); omega
  have HN : Hid (((name ++ (⟨#[46]⟩ : ByteArray)) ++ (SIZ f)) = s1) := Lib.hid (by rw [hs0, hs1])
  clear hs0 hs1
  have B0 := Lib.hid (((Below.refl W.heap.size W).alloc (Nat.le_refl _) (.cells (specV ⟨23, name, code, top, rm, rs2, lay⟩) 116)).alloc (by simp) (.cells (rowV ⟨rop, f, g, k, mask, mtch, rlay⟩) 40))
  go_enter Try.func88, Try.ntmps88
  go_wp2
  go_quiet (first | (go_at_call 100; exact Calls.quiet_of_same (tsize_c _ f hf)) | (go_at_call 101; exact Calls.quiet_of_same (tletter_c _ f hf)) | (go_at_call 101; exact Calls.quiet_of_same (tletter_c _ g hg)) | (go_at_call 102; exact Calls.quiet_of_same (tkind_c _ k hk)))
  go_wp2
  go_ret
  rw [HN.out]
  exact ⟨rfl, below_drewN B0.out⟩
theorem lab_25 (W : World) (name : ByteArray) (code : Nat) (top rm rs2 : Int) (lay rop f g k mask mtch rlay : Nat) (hf : f < 4) (hg : g < 4) (hk : k < 4) (hn : name.size ≤ 6) : Calls Try.prog 88 #[.agg (specV ⟨25, name, code, top, rm, rs2, lay⟩), .agg (rowV ⟨rop, f, g, k, mask, mtch, rlay⟩)] W fun e w' => e = .returned (.string (((name ++ (⟨#[46]⟩ : ByteArray)) ++ (SIZ f)) ++ (⟨#[46, 120]⟩ : ByteArray))) ∧ Below W.heap.size W w' := by
  obtain ⟨s0, hs0⟩ : ∃ s, name ++ (⟨#[46]⟩ : ByteArray) = s := ⟨_, rfl⟩
  have cs0 : ∀ X : World, (Op.stringOp .add name (⟨#[46]⟩ : ByteArray)).run Try.prog X = .ok (.string s0) X := fun X => by rw [← hs0]; exact run_string_add_sum X _ _ (by have := hn; have := (by decide : (⟨#[46]⟩ : ByteArray).size ≤ 2); omega)
  have hz0 : s0.size ≤ 8 := by rw [← hs0, ByteArray.size_append]; have := hn; have := (by decide : (⟨#[46]⟩ : ByteArray).size ≤ 2); omega
  obtain ⟨s1, hs1⟩ : ∃ s, s0 ++ (SIZ f) = s := ⟨_, rfl⟩
  have cs1 : ∀ X : World, (Op.stringOp .add s0 (SIZ f)).run Try.prog X = .ok (.string s1) X := fun X => by rw [← hs1]; exact run_string_add_sum X _ _ (by have := hz0; have := (Nat.le_of_eq (SIZ_size f)); omega)
  have hz1 : s1.size ≤ 10 := by rw [← hs1, ByteArray.size_append]; have := hz0; have := (Nat.le_of_eq (SIZ_size f)); omega
  obtain ⟨s2, hs2⟩ : ∃ s, s1 ++ (⟨#[46, 120]⟩ : ByteArray) = s := ⟨_, rfl⟩
  have cs2 : ∀ X : World, (Op.stringOp .add s1 (⟨#[46, 120]⟩ : ByteArray)).run Try.prog X = .ok (.string s2) X := fun X => by rw [← hs2]; exact run_string_add_sum X _ _ (by have := hz1; have := (by decide : (⟨#[46, 120]⟩ : ByteArray).size ≤ 2); omega)
  have hz2 : s2.size ≤ 12 := by rw [← hs2, ByteArray.size_append]; have := hz1; have := (by decide : (⟨#[46, 120]⟩ : ByteArray).size ≤ 2); omega
  have HN : Hid ((((name ++ (⟨#[46]⟩ : ByteArray)) ++ (SIZ f)) ++ (⟨#[46, 120]⟩ : ByteArray)) = s2) := Lib.hid (by rw [hs0, hs1, hs2])
  clear hs0 hs1 hs2
  have B0 := Lib.hid (((Below.refl W.heap.size W).alloc (Nat.le_refl _) (.cells (specV ⟨25, name, code, top, rm, rs2, lay⟩) 116)).alloc (by simp) (.cells (rowV ⟨rop, f, g, k, mask, mtch, rlay⟩) 40))
  go_enter Try.func88, Try.ntmps88
  go_wp2
  go_quiet (first | (go_at_call 100; exact Calls.quiet_of_same (tsize_c _ f hf)) | (go_at_call 101; exact Calls.quiet_of_same (tletter_c _ f hf)) | (go_at_call 101; exact Calls.quiet_of_same (tletter_c _ g hg)) | (go_at_call 102; exact Calls.quiet_of_same (tkind_c _ k hk)))
  go_wp2
  go_ret
  rw [HN.out]
  exact ⟨rfl, below_drewN B0.out⟩
theorem lab_26 (W : World) (name : ByteArray) (code : Nat) (top rm rs2 : Int) (lay rop f g k mask mtch rlay : Nat) (hf : f < 4) (hg : g < 4) (hk : k < 4) (hn : name.size ≤ 6) : Calls Try.prog 88 #[.agg (specV ⟨26, name, code, top, rm, rs2, lay⟩), .agg (rowV ⟨rop, f, g, k, mask, mtch, rlay⟩)] W fun e w' => e = .returned (.string name) ∧ Below W.heap.size W w' := by
  have B0 := Lib.hid (((Below.refl W.heap.size W).alloc (Nat.le_refl _) (.cells (specV ⟨26, name, code, top, rm, rs2, lay⟩) 116)).alloc (by simp) (.cells (rowV ⟨rop, f, g, k, mask, mtch, rlay⟩) 40))
  go_enter Try.func88, Try.ntmps88
  go_wp2
  go_ret
  exact ⟨rfl, B0.out⟩
theorem lab_27 (W : World) (name : ByteArray) (code : Nat) (top rm rs2 : Int) (lay rop f g k mask mtch rlay : Nat) (hf : f < 4) (hg : g < 4) (hk : k < 4) (hn : name.size ≤ 6) : Calls Try.prog 88 #[.agg (specV ⟨27, name, code, top, rm, rs2, lay⟩), .agg (rowV ⟨rop, f, g, k, mask, mtch, rlay⟩)] W fun e w' => e = .returned (.string name) ∧ Below W.heap.size W w' := by
  have B0 := Lib.hid (((Below.refl W.heap.size W).alloc (Nat.le_refl _) (.cells (specV ⟨27, name, code, top, rm, rs2, lay⟩) 116)).alloc (by simp) (.cells (rowV ⟨rop, f, g, k, mask, mtch, rlay⟩) 40))
  go_enter Try.func88, Try.ntmps88
  go_wp2
  go_ret
  exact ⟨rfl, B0.out⟩
theorem lab_28 (W : World) (name : ByteArray) (code : Nat) (top rm rs2 : Int) (lay rop f g k mask mtch rlay : Nat) (hf : f < 4) (hg : g < 4) (hk : k < 4) (hn : name.size ≤ 6) : Calls Try.prog 88 #[.agg (specV ⟨28, name, code, top, rm, rs2, lay⟩), .agg (rowV ⟨rop, f, g, k, mask, mtch, rlay⟩)] W fun e w' => e = .returned (.string name) ∧ Below W.heap.size W w' := by
  have B0 := Lib.hid (((Below.refl W.heap.size W).alloc (Nat.le_refl _) (.cells (specV ⟨28, name, code, top, rm, rs2, lay⟩) 116)).alloc (by simp) (.cells (rowV ⟨rop, f, g, k, mask, mtch, rlay⟩) 40))
  go_enter Try.func88, Try.ntmps88
  go_wp2
  go_ret
  exact ⟨rfl, B0.out⟩
theorem lab_29 (W : World) (name : ByteArray) (code : Nat) (top rm rs2 : Int) (lay rop f g k mask mtch rlay : Nat) (hf : f < 4) (hg : g < 4) (hk : k < 4) (hn : name.size ≤ 6) : Calls Try.prog 88 #[.agg (specV ⟨29, name, code, top, rm, rs2, lay⟩), .agg (rowV ⟨rop, f, g, k, mask, mtch, rlay⟩)] W fun e w' => e = .returned (.string name) ∧ Below W.heap.size W w' := by
  have B0 := Lib.hid (((Below.refl W.heap.size W).alloc (Nat.le_refl _) (.cells (specV ⟨29, name, code, top, rm, rs2, lay⟩) 116)).alloc (by simp) (.cells (rowV ⟨rop, f, g, k, mask, mtch, rlay⟩) 40))
  go_enter Try.func88, Try.ntmps88
  go_wp2
  go_ret
  exact ⟨rfl, B0.out⟩
theorem lab_30 (W : World) (name : ByteArray) (code : Nat) (top rm rs2 : Int) (lay rop f g k mask mtch rlay : Nat) (hf : f < 4) (hg : g < 4) (hk : k < 4) (hn : name.size ≤ 6) : Calls Try.prog 88 #[.agg (specV ⟨30, name, code, top, rm, rs2, lay⟩), .agg (rowV ⟨rop, f, g, k, mask, mtch, rlay⟩)] W fun e w' => e = .returned (.string name) ∧ Below W.heap.size W w' := by
  have B0 := Lib.hid (((Below.refl W.heap.size W).alloc (Nat.le_refl _) (.cells (specV ⟨30, name, code, top, rm, rs2, lay⟩) 116)).alloc (by simp) (.cells (rowV ⟨rop, f, g, k, mask, mtch, rlay⟩) 40))
  go_enter Try.func88, Try.ntmps88
  go_wp2
  go_ret
  exact ⟨rfl, B0.out⟩
theorem lab_31 (W : World) (name : ByteArray) (code : Nat) (top rm rs2 : Int) (lay rop f g k mask mtch rlay : Nat) (hf : f < 4) (hg : g < 4) (hk : k < 4) (hn : name.size ≤ 6) : Calls Try.prog 88 #[.agg (specV ⟨31, name, code, top, rm, rs2, lay⟩), .agg (rowV ⟨rop, f, g, k, mask, mtch, rlay⟩)] W fun e w' => e = .returned (.string name) ∧ Below W.heap.size W w' := by
  have B0 := Lib.hid (((Below.refl W.heap.size W).alloc (Nat.le_refl _) (.cells (specV ⟨31, name, code, top, rm, rs2, lay⟩) 116)).alloc (by simp) (.cells (rowV ⟨rop, f, g, k, mask, mtch, rlay⟩) 40))
  go_enter Try.func88, Try.ntmps88
  go_wp2
  go_ret
  exact ⟨rfl, B0.out⟩
theorem lab_d (W : World) (name : ByteArray) (code : Nat) (top rm rs2 : Int) (lay rop f g k mask mtch rlay : Nat) (hf : f < 4) (hg : g < 4) (hk : k < 4) (hn : name.size ≤ 6) (op : Nat) (y1 : ((op : Int) == 1) = false) (y2 : ((op : Int) == 2) = false) (y17 : ((op : Int) == 17) = false) (y21 : ((op : Int) == 21) = false) (y22 : ((op : Int) == 22) = false) (y23 : ((op : Int) == 23) = false) (y25 : ((op : Int) == 25) = false) (y26 : ((op : Int) == 26) = false) (y27 : ((op : Int) == 27) = false) (y28 : ((op : Int) == 28) = false) (y29 : ((op : Int) == 29) = false) (y30 : ((op : Int) == 30) = false) (y31 : ((op : Int) == 31) = false) : Calls Try.prog 88 #[.agg (specV ⟨op, name, code, top, rm, rs2, lay⟩), .agg (rowV ⟨rop, f, g, k, mask, mtch, rlay⟩)] W fun e w' => e = .returned (.string ((name ++ (⟨#[46]⟩ : ByteArray)) ++ (LET f))) ∧ Below W.heap.size W w' := by
  obtain ⟨s0, hs0⟩ : ∃ s, name ++ (⟨#[46]⟩ : ByteArray) = s := ⟨_, rfl⟩
  have cs0 : ∀ X : World, (Op.stringOp .add name (⟨#[46]⟩ : ByteArray)).run Try.prog X = .ok (.string s0) X := fun X => by rw [← hs0]; exact run_string_add_sum X _ _ (by have := hn; have := (by decide : (⟨#[46]⟩ : ByteArray).size ≤ 2); omega)
  have hz0 : s0.size ≤ 8 := by rw [← hs0, ByteArray.size_append]; have := hn; have := (by decide : (⟨#[46]⟩ : ByteArray).size ≤ 2); omega
  obtain ⟨s1, hs1⟩ : ∃ s, s0 ++ (LET f) = s := ⟨_, rfl⟩
  have cs1 : ∀ X : World, (Op.stringOp .add s0 (LET f)).run Try.prog X = .ok (.string s1) X := fun X => by rw [← hs1]; exact run_string_add_sum X _ _ (by have := hz0; have := (Nat.le_of_eq (LET_size f)); omega)
  have hz1 : s1.size ≤ 10 := by rw [← hs1, ByteArray.size_append]; have := hz0; have := (Nat.le_of_eq (LET_size f)); omega
  have HN : Hid (((name ++ (⟨#[46]⟩ : ByteArray)) ++ (LET f)) = s1) := Lib.hid (by rw [hs0, hs1])
  clear hs0 hs1
  have B0 := Lib.hid (((Below.refl W.heap.size W).alloc (Nat.le_refl _) (.cells (specV ⟨op, name, code, top, rm, rs2, lay⟩) 116)).alloc (by simp) (.cells (rowV ⟨rop, f, g, k, mask, mtch, rlay⟩) 40))
  go_enter Try.func88, Try.ntmps88
  go_wp2
  go_quiet (first | (go_at_call 100; exact Calls.quiet_of_same (tsize_c _ f hf)) | (go_at_call 101; exact Calls.quiet_of_same (tletter_c _ f hf)) | (go_at_call 101; exact Calls.quiet_of_same (tletter_c _ g hg)) | (go_at_call 102; exact Calls.quiet_of_same (tkind_c _ k hk)))
  go_wp2
  go_ret
  rw [HN.out]
  exact ⟨rfl, below_drewN B0.out⟩
/-- the name of a row -/
def LAB (s : Sp) (r : R7) : ByteArray :=
  if s.op ≤ 2 then s.name ++ SIZ r.form else if s.op = 17 then s.name ++ ⟨#[46]⟩ ++ LET r.form ++ ⟨#[46]⟩ ++ LET r.frm
  else if s.op = 21 then s.name ++ ⟨#[46]⟩ ++ KIN r.kind ++ ⟨#[46]⟩ ++ LET r.form else if s.op = 22 then s.name ++ ⟨#[46]⟩ ++ LET r.form ++ ⟨#[46]⟩ ++ KIN r.kind
  else if s.op = 23 then s.name ++ ⟨#[46]⟩ ++ SIZ r.form else if s.op = 25 then s.name ++ ⟨#[46]⟩ ++ SIZ r.form ++ ⟨#[46, 120]⟩ else if 26 ≤ s.op then s.name else s.name ++ ⟨#[46]⟩ ++ LET r.form
theorem label_c (W : World) (s : Sp) (hs : s ∈ SPECS) (r : R7) (hf : r.form < 4) (hg : r.frm < 4) (hk : r.kind < 4) : Calls Try.prog 88 #[.agg (specV s), .agg (rowV r)] W fun e w' => e = .returned (.string (LAB s r)) ∧ Below W.heap.size W w' := by
  obtain ⟨rop, f, g, k, mask, mtch, rlay⟩ := r
  simp only [] at hf hg hk
  simp only [SPECS, List.mem_cons, List.not_mem_nil, or_false] at hs
  rcases hs with rfl | rfl | rfl | rfl | rfl | rfl | rfl | rfl | rfl | rfl | rfl | rfl | rfl | rfl | rfl | rfl | rfl | rfl | rfl | rfl | rfl | rfl | rfl | rfl | rfl | rfl | rfl | rfl | rfl | rfl | rfl
  · exact lab_1 W _ _ _ _ _ _ _ _ _ _ _ _ _ hf hg hk (by decide)
  · exact lab_2 W _ _ _ _ _ _ _ _ _ _ _ _ _ hf hg hk (by decide)
  · exact lab_d W _ _ _ _ _ _ _ _ _ _ _ _ _ hf hg hk (by decide) 3 (by decide) (by decide) (by decide) (by decide) (by decide) (by decide) (by decide) (by decide) (by decide) (by decide) (by decide) (by decide) (by decide)
  · exact lab_d W _ _ _ _ _ _ _ _ _ _ _ _ _ hf hg hk (by decide) 4 (by decide) (by decide) (by decide) (by decide) (by decide) (by decide) (by decide) (by decide) (by decide) (by decide) (by decide) (by decide) (by decide)
  · exact lab_d W _ _ _ _ _ _ _ _ _ _ _ _ _ hf hg hk (by decide) 5 (by decide) (by decide) (by decide) (by decide) (by decide) (by decide) (by decide) (by decide) (by decide) (by decide) (by decide) (by decide) (by decide)
  · exact lab_d W _ _ _ _ _ _ _ _ _ _ _ _ _ hf hg hk (by decide) 6 (by decide) (by decide) (by decide) (by decide) (by decide) (by decide) (by decide) (by decide) (by decide) (by decide) (by decide) (by decide) (by decide)
  · exact lab_d W _ _ _ _ _ _ _ _ _ _ _ _ _ hf hg hk (by decide) 7 (by decide) (by decide) (by decide) (by decide) (by decide) (by decide) (by decide) (by decide) (by decide) (by decide) (by decide) (by decide) (by decide)
  · exact lab_d W _ _ _ _ _ _ _ _ _ _ _ _ _ hf hg hk (by decide) 8 (by decide) (by decide) (by decide) (by decide) (by decide) (by decide) (by decide) (by decide) (by decide) (by decide) (by decide) (by decide) (by decide)
  · exact lab_d W _ _ _ _ _ _ _ _ _ _ _ _ _ hf hg hk (by decide) 9 (by decide) (by decide) (by decide) (by decide) (by decide) (by decide) (by decide) (by decide) (by decide) (by decide) (by decide) (by decide) (by decide)
  · exact lab_d W _ _ _ _ _ _ _ _ _ _ _ _ _ hf hg hk (by decide) 10 (by decide) (by decide) (by decide) (by decide) (by decide) (by decide) (by decide) (by decide) (by decide) (by decide) (by decide) (by decide) (by decide)
  · exact lab_d W _ _ _ _ _ _ _ _ _ _ _ _ _ hf hg hk (by decide) 11 (by decide) (by decide) (by decide) (by decide) (by decide) (by decide) (by decide) (by decide) (by decide) (by decide) (by decide) (by decide) (by decide)
  · exact lab_d W _ _ _ _ _ _ _ _ _ _ _ _ _ hf hg hk (by decide) 12 (by decide) (by decide) (by decide) (by decide) (by decide) (by decide) (by decide) (by decide) (by decide) (by decide) (by decide) (by decide) (by decide)
  · exact lab_d W _ _ _ _ _ _ _ _ _ _ _ _ _ hf hg hk (by decide) 13 (by decide) (by decide) (by decide) (by decide) (by decide) (by decide) (by decide) (by decide) (by decide) (by decide) (by decide) (by decide) (by decide)
  · exact lab_d W _ _ _ _ _ _ _ _ _ _ _ _ _ hf hg hk (by decide) 14 (by decide) (by decide) (by decide) (by decide) (by decide) (by decide) (by decide) (by decide) (by decide) (by decide) (by decide) (by decide) (by decide)
  · exact lab_d W _ _ _ _ _ _ _ _ _ _ _ _ _ hf hg hk (by decide) 15 (by decide) (by decide) (by decide) (by decide) (by decide) (by decide) (by decide) (by decide) (by decide) (by decide) (by decide) (by decide) (by decide)
  · exact lab_d W _ _ _ _ _ _ _ _ _ _ _ _ _ hf hg hk (by decide) 16 (by decide) (by decide) (by decide) (by decide) (by decide) (by decide) (by decide) (by decide) (by decide) (by decide) (by decide) (by decide) (by decide)
  · exact lab_17 W _ _ _ _ _ _ _ _ _ _ _ _ _ hf hg hk (by decide)
  · exact lab_d W _ _ _ _ _ _ _ _ _ _ _ _ _ hf hg hk (by decide) 18 (by decide) (by decide) (by decide) (by decide) (by decide) (by decide) (by decide) (by decide) (by decide) (by decide) (by decide) (by decide) (by decide)
  · exact lab_d W _ _ _ _ _ _ _ _ _ _ _ _ _ hf hg hk (by decide) 19 (by decide) (by decide) (by decide) (by decide) (by decide) (by decide) (by decide) (by decide) (by decide) (by decide) (by decide) (by decide) (by decide)
  · exact lab_d W _ _ _ _ _ _ _ _ _ _ _ _ _ hf hg hk (by decide) 20 (by decide) (by decide) (by decide) (by decide) (by decide) (by decide) (by decide) (by decide) (by decide) (by decide) (by decide) (by decide) (by decide)
  · exact lab_21 W _ _ _ _ _ _ _ _ _ _ _ _ _ hf hg hk (by decide)
  · exact lab_22 W _ _ _ _ _ _ _ _ _ _ _ _ _ hf hg hk (by decide)
  · exact lab_23 W _ _ _ _ _ _ _ _ _ _ _ _ _ hf hg hk (by decide)
  · exact lab_d W _ _ _ _ _ _ _ _ _ _ _ _ _ hf hg hk (by decide) 24 (by decide) (by decide) (by decide) (by decide) (by decide) (by decide) (by decide) (by decide) (by decide) (by decide) (by decide) (by decide) (by decide)
  · exact lab_25 W _ _ _ _ _ _ _ _ _ _ _ _ _ hf hg hk (by decide)
  · exact lab_26 W _ _ _ _ _ _ _ _ _ _ _ _ _ hf hg hk (by decide)
  · exact lab_27 W _ _ _ _ _ _ _ _ _ _ _ _ _ hf hg hk (by decide)
  · exact lab_28 W _ _ _ _ _ _ _ _ _ _ _ _ _ hf hg hk (by decide)
  · exact lab_29 W _ _ _ _ _ _ _ _ _ _ _ _ _ hf hg hk (by decide)
  · exact lab_30 W _ _ _ _ _ _ _ _ _ _ _ _ _ hf hg hk (by decide)
  · exact lab_31 W _ _ _ _ _ _ _ _ _ _ _ _ _ hf hg hk (by decide)
end Go.Proofs.Yteelconabmfnkaa
