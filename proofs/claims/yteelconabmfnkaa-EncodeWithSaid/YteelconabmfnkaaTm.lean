import Derived.Test.YteelconabmfnkaaTl
namespace Go.Proofs.Yteelconabmfnkaa
open Go Go.RowKit
set_option maxHeartbeats 4000000
set_option maxRecDepth 100000
set_option linter.unusedSimpArgs false
def fStore (w : Nat) (x : I11) : I11 := { x with rs1 := rg w 15, rs2 := rg w 20, imm := s12 (32 * (w / 33554432) + rg w 7) }
theorem or_table : ∀ u : Nat, u < 128 → ∀ r : Nat, r < 32 → bits .or .i16 (if u < 64 then 32 * (u : Int) else 32 * (u : Int) - 4096) ((r : Nat) : Int) = s12 (32 * u + r) := of_decide_eq_true (by kernel_rfl)
theorem or_s12 (w : Nat) (hw : w < 4294967296) : bits .or .i16 (IntKind.i16.wrap (wrap32 (wrap32 (w : Int) / 33554432 * 32))) ((rg w 7 : Nat) : Int) = s12 (32 * (w / 33554432) + rg w 7) := by
  have h32 : wrap32 (w : Int) = if w < 2147483648 then (w : Int) else (w : Int) - 4294967296 := by unfold wrap32; split <;> omega
  have hb : ∀ z : Int, -32768 ≤ z → z < 32768 → IntKind.i16.wrap z = z := fun z h1 h2 => by simp only [IntKind.wrap, IntKind.signed, IntKind.bits]; simp; omega
  have hw32 : ∀ z : Int, -32768 ≤ z → z < 32768 → wrap32 z = z := fun z h1 h2 => by unfold wrap32; omega
  have hu : w / 33554432 < 128 := by omega
  have hr : rg w 7 < 32 := Nat.mod_lt _ (by decide)
  rw [← or_table _ hu _ hr]
  congr 1
  rw [h32]
  split <;> rename_i h
  · rw [if_pos (by omega), hw32 _ (by omega) (by omega), hb _ (by omega) (by omega)]; omega
  · rw [if_neg (by omega), hw32 _ (by omega) (by omega), hb _ (by omega) (by omega)]; omega
theorem fill_store (A : World) (b : Nat) (x : I11) (w : Nat) (h : Blk A b (instV x) 27) (hw : w < 4294967296) :
    Calls Try.prog 79 #[.pointer (some ⟨b, 0, none⟩), .int .u32 w] A fun e A' => e = .returned (.tuple #[]) ∧ Blk A' b (instV (fStore w x)) 27 ∧ A.grownBy A' (some b) := by
  have c5 := h.cell 5
  have c6 := h.cell 6
  have c9 := h.cell 9
  simp only [List.getElem?_toArray, List.getElem?_cons_succ, List.getElem?_cons_zero] at c5 c6 c9
  have fz := h.frozen
  obtain ⟨q, hq⟩ : ∃ q, s12 (32 * (w / 33554432) + rg w 7) = q := ⟨_, rfl⟩
  have HF : ∀ y, fStore w y = { y with rs1 := rg w 15, rs2 := rg w 20, imm := q } := fun y => by unfold fStore; rw [hq]
  rw [HF]
  have e9 : bits .or .i16 (IntKind.i16.wrap (wrap32 (wrap32 (w : Int) / 33554432 * 32))) ((rg w 7 : Nat) : Int) = q := by rw [← hq]; exact or_s12 w hw
  have hr7 : rg w 7 < 32 := Nat.mod_lt _ (by decide)
  clear HF hq
  go_enter Try.func79, Try.ntmps79
  go_wp2_with (first
    | (go_at_call 75; (with_reducible refine (reg_7 _ w hw).mono ?_); rintro e w' ⟨rfl, rfl⟩)
    | (go_at_call 75; (with_reducible refine (reg_15 _ w hw).mono ?_); rintro e w' ⟨rfl, rfl⟩)
    | (go_at_call 75; (with_reducible refine (reg_20 _ w hw).mono ?_); rintro e w' ⟨rfl, rfl⟩)
    | (go_at_call 75; (with_reducible refine (reg_27 _ w hw).mono ?_); rintro e w' ⟨rfl, rfl⟩)
    | fail)
  go_end0
  have g := (((h).set 5 (.int .u8 (rg w 15 : Nat))).set 6 (.int .u8 (rg w 20 : Nat))).set 9 (.int .i16 q)
  simp only [List.setIfInBounds_toArray, List.set_cons_succ, List.set_cons_zero] at g
  exact ⟨rfl, g, grown_set_row (grown_set_row (grown_set_row (World.grownBy.refl _ (some b)) 5 (.int .u8 (rg w 15 : Nat))) 6 (.int .u8 (rg w 20 : Nat))) 9 (.int .i16 q)⟩
end Go.Proofs.Yteelconabmfnkaa
