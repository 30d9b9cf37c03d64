/- abacusref25.Decode. -/
import Derived.Test.YteelconabmfnkaaVla
namespace Go.Proofs.Yteelconabmfnkaa
open Go Go.RowKit
set_option maxHeartbeats 4000000
set_option maxRecDepth 100000
set_option linter.unusedVariables false
set_option linter.unusedSimpArgs false
theorem rdec_none (W : World) (w : Nat) (hw : w < 4294967296) (h : FINDN w = none) : Calls Try.prog 43 #[.int .u32 w] W (DecP W w) := by
  have hd : DEC w = none := by unfold DEC; rw [← findn_map, h]; rfl
  have C1 : Hid (∀ X, Calls Try.prog 25 #[.int .u32 w] X fun e w' => e = .returned (.tuple #[.agg (entV zeroR emp), .bool false]) ∧ Below X.heap.size X w') := Lib.hid fun X => by
    have := rfind_c X w hw
    unfold RFindP at this
    rw [h] at this
    exact this
  clear h
  have k0 := Blk.new W (instV zeroI) 27
  go_enter Try.func43, Try.ntmps43
  go_wp2_with (first
    | (go_at_call 25; (with_reducible refine (C1.out _).mono ?_); rintro e w1 ⟨rfl, hb⟩)
    | (refine wpList_store_blk rfl _ _ _ rfl _ _ rfl rfl _ _ ((k0.below hb (by simp)).alloc _) (by kernel_rfl) rfl (by simp [Value.oneCell']) ?_))
  have k1 := ((k0.below hb (by simp)).alloc (.cells (entV zeroR emp) 42)).row (instV zeroI)
  exact bodyPost_ret (results_cell_tmp rfl _ _ W.heap.size _ _ _ rfl k1 Try.underlying27 rfl (by kernel_rfl)) rfl ⟨by rw [hd]; rfl, below_setRow ((((Below.refl W.heap.size W).alloc (Nat.le_refl _) _).trans (hb.mono (by simp))).alloc (by have := hb.size; simp at this; omega) _) (Nat.le_refl _) _⟩
theorem rdec_c (W : World) (w : Nat) (hw : w < 4294967296) : Calls Try.prog 43 #[.int .u32 w] W (DecP W w) := by
  cases h : FINDN w with
  | none => exact rdec_none W w hw h
  | some p =>
    have hF : FIND w = some p.1 := by rw [← findn_map, h]; rfl
    rcases lay_rows p.1 (List.mem_of_find?_eq_some hF) with hl | hl | hl | hl | hl | hl | hl | hl | hl
    · exact rdec_1 W w hw p.1 p.2 h hl
    · exact rdec_2 W w hw p.1 p.2 h hl
    · exact rdec_3 W w hw p.1 p.2 h hl
    · exact rdec_4 W w hw p.1 p.2 h hl
    · exact rdec_5 W w hw p.1 p.2 h hl
    · exact rdec_6 W w hw p.1 p.2 h hl
    · exact rdec_7 W w hw p.1 p.2 h hl
    · exact rdec_8 W w hw p.1 p.2 h hl
    · exact rdec_9 W w hw p.1 p.2 h hl
end Go.Proofs.Yteelconabmfnkaa
