/- decode.Uses, decode.Legal. -/
import Derived.Test.YteelconabmfnkaaTqa
namespace Go.Proofs.Yteelconabmfnkaa
open Go Go.RowKit
set_option maxHeartbeats 4000000
set_option maxRecDepth 100000
set_option linter.unusedVariables false
set_option linter.unusedSimpArgs false
theorem uses_none (W : World) (w : Nat) (hw : w < 4294967296) (hd : DEC w = none) : Calls Try.prog 41 #[.int .u32 w] W (UsesP W w) := by
  have C1 : Hid (∀ X, Calls Try.prog 22 #[.int .u32 w] X fun e w' => e = .returned (.tuple #[.agg (instV zeroI), .int .i64 250]) ∧ Below X.heap.size X w') := Lib.hid fun X => by
    have := decode_c X w hw
    unfold DecP at this
    rw [hd] at this
    exact this
  unfold UsesP
  rw [hd]
  clear hd
  go_enter Try.func41, Try.ntmps41
  have k0 := Blk.new W (useV zeroU) 68
  go_wp2_with (first
    | (go_at_call 22; (with_reducible refine (C1.out _).mono ?_); rintro e w1 ⟨rfl, hb⟩)
    | (refine wpList_store_blk rfl _ _ _ rfl _ _ rfl rfl _ _ ((k0.below hb (by simp)).alloc _) (by kernel_rfl) rfl (by simp [Value.oneCell']) ?_))
  have k1 := ((k0.below hb (by simp)).alloc (.cells (instV zeroI) 27)).row (useV zeroU)
  exact bodyPost_ret (results_cell_tmp rfl _ _ W.heap.size _ _ _ rfl k1 Try.underlying68 rfl (by kernel_rfl)) rfl ⟨rfl, below_setRow ((((Below.refl W.heap.size W).alloc (Nat.le_refl _) _).trans (hb.mono (by simp))).alloc (by have := hb.size; simp at this; omega) _) (Nat.le_refl _) _⟩
theorem uses_c (W : World) (w : Nat) (hw : w < 4294967296) : Calls Try.prog 41 #[.int .u32 w] W (UsesP W w) := by
  cases hd : DEC w with
  | none => exact uses_none W w hw hd
  | some x =>
    have M := dec_mays hw hd
    obtain ⟨op, form, frm, kind, rd, rs1, rs2, rs3, rm, imm, csr⟩ := x
    have hop : op = 1 ∨ op = 22 ∨ op = 25 ∨ op = 2 ∨ op = 26 ∨ op = 27 ∨ op = 28 ∨ op = 29 ∨ op = 30 ∨ op = 31 ∨ op = 21 ∨ op = 23 ∨ op = 24 ∨ op = 18 ∨ op = 19 ∨ op = 20 ∨ op = 11 ∨ op = 17 ∨ op = 3 ∨ op = 4 ∨ op = 5 ∨ op = 6 ∨ op = 7 ∨ op = 8 ∨ op = 9 ∨ op = 10 ∨ op = 12 ∨ op = 13 ∨ op = 14 ∨ op = 15 ∨ op = 16 := by
      have a := (dec_op hw hd).1
      have b := (dec_op hw hd).2
      simp only [] at a b
      omega
    have g1 := M.1
    have g2 := M.2.1
    have g3 := M.2.2.1
    have g4 := M.2.2.2
    simp only [] at g1 g2 g3 g4
    clear M
    rcases hop with h | h | h | h | h | h | h | h | h | h | h | h | h | h | h | h | h | h | h | h | h | h | h | h | h | h | h | h | h | h | h
    all_goals first
    | exact uses_A W w hw _ _ _ _ _ _ _ _ _ _ _ (by omega) g1 g2 g3 g4 hd
    | exact uses_B W w hw _ _ _ _ _ _ _ _ _ _ _ (by omega) g1 g2 g3 g4 hd
    | exact uses_C W w hw _ _ _ _ _ _ _ _ _ _ _ (by omega) g1 g2 g3 g4 hd
    | exact uses_D W w hw _ _ _ _ _ _ _ _ _ _ _ (by omega) g1 g2 g3 g4 hd
    | exact uses_E W w hw _ _ _ _ _ _ _ _ _ _ _ (by omega) g1 g2 g3 g4 hd
    | exact uses_F W w hw _ _ _ _ _ _ _ _ _ _ _ (by omega) g1 g2 g3 g4 hd
    | exact uses_G W w hw _ _ _ _ _ _ _ _ _ _ _ (by omega) g1 g2 g3 g4 hd
    | exact uses_H W w hw _ _ _ _ _ _ _ _ _ _ _ (by omega) g1 g2 g3 g4 hd
    | exact uses_I W w hw _ _ _ _ _ _ _ _ _ _ _ (by omega) g1 g2 g3 g4 hd
theorem legal_c (W : World) (w : Nat) (hw : w < 4294967296) : Calls Try.prog 44 #[.int .u32 w] W fun e w' => e = .returned (.bool (DEC w).isSome) ∧ Below W.heap.size W w' := by
  have C1 : Hid (∀ X, Calls Try.prog 34 #[.int .u32 w] X (FindP X w)) := Lib.hid fun X => find_c X w hw
  have hs : (DEC w).isSome = (FIND w).isSome := by unfold DEC; simp
  rw [hs]
  clear hs
  obtain ⟨r, hr⟩ : ∃ r, (FIND w).getD zeroR = r := ⟨_, rfl⟩
  obtain ⟨b, hb⟩ : ∃ b, (FIND w).isSome = b := ⟨_, rfl⟩
  unfold FindP at C1
  rw [hr, hb] at C1
  rw [hb]
  clear hr hb
  go_enter Try.func44, Try.ntmps44
  go_wp2_with (first
    | (go_at_call 34; (with_reducible refine (C1.out _).mono ?_); rintro e w1 ⟨rfl, hb⟩))
  go_ret
  exact ⟨rfl, hb.alloc hb.size _⟩
end Go.Proofs.Yteelconabmfnkaa
