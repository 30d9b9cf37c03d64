/- The law TableFinds: its walk. -/
import Derived.Test.YteelconabmfnkaaWf
namespace Go.Proofs.Yteelconabmfnkaa
open Go Go.RowKit
set_option maxHeartbeats 4000000
set_option maxRecDepth 100000
set_option linter.unusedVariables false
set_option linter.unusedSimpArgs false
theorem walk_TableFinds (w : Nat) (W : World) (hw : w < 4294967296) : Calls Try.prog 7 #[.int .u32 w] W fun e w' => e = .returned (.bool true) ∧ Below W.heap.size W w' := by
  have C1 := Lib.hid (fun X => find_c X w hw)
  have C2 := Lib.hid (fun X => rfind_c X w hw)
  obtain ⟨r, hr⟩ : ∃ r, (FIND w).getD zeroR = r := ⟨_, rfl⟩
  obtain ⟨b, hb⟩ : ∃ b, (FIND w).isSome = b := ⟨_, rfl⟩
  obtain ⟨nm, hnm⟩ : ∃ nm, ((FINDN w).getD NONE2).2 = nm := ⟨_, rfl⟩
  have e1 : ((FINDN w).getD NONE2).1 = r := by rw [← hr, ← findn_map]; cases FINDN w <;> rfl
  have e2 : (FINDN w).isSome = b := by rw [← hb, ← findn_map]; cases FINDN w <;> rfl
  unfold FindP at C1
  unfold RFindP at C2
  rw [hr, hb] at C1
  rw [e1, e2, hnm] at C2
  clear hr hb hnm e1 e2 hw
  have hbb : (b == b) = true := by cases b <;> rfl
  have heq : ∀ X, (binOp .eql 40 (.agg (rowV r)) (.agg (rowV r))).run Try.prog X = .ok (.bool true) X := fun X => by rw [eq_row, decide_eq_true rfl]
  obtain ⟨op, form, frm, kind, mask, mtch, lay⟩ := r
  go_enter Try.func7, Try.ntmps7
  go_wp2_with (first
    | (go_at_call 34; (with_reducible refine (C1.out _).mono ?_); rintro e w1 ⟨rfl, b1⟩; clear C1; have k1 := Blk.new w1 (rowV ⟨op, form, frm, kind, mask, mtch, lay⟩) 40)
    | (go_at_call 25; (with_reducible refine (C2.out _).mono ?_); rintro e w2 ⟨rfl, b2⟩; clear C2; have k2 := (k1.call b2).alloc (.cells (entV ⟨op, form, frm, kind, mask, mtch, lay⟩ nm) 42); have z2 := Blk.new w2 (entV ⟨op, form, frm, kind, mask, mtch, lay⟩ nm) 42; have y0 := z2.cell 0; have y1 := z2.cell 1; have y2 := z2.cell 2; have y3 := z2.cell 3; have y4 := z2.cell 4; have y5 := z2.cell 5; have y6 := z2.cell 6; simp only [List.getElem?_toArray, List.getElem?_cons_succ, List.getElem?_cons_zero] at y0 y1 y2 y3 y4 y5 y6)
    | (refine wpList_load_blk_on rfl _ _ rfl _ rfl _ _ _ k2 Try.underlying40 rfl (by kernel_rfl) ?_)
    | (go_at_call 33; (with_reducible refine (lives24 _).mono ?_); rintro e w7 ⟨rfl, b7⟩))
  go_ret
  have d1 := b1.alloc b1.size (.cells (rowV ⟨op, form, frm, kind, mask, mtch, lay⟩) 40)
  have d2 := (d1.trans (b2.mono d1.size)).alloc (Nat.le_trans d1.size b2.size) (.cells (entV ⟨op, form, frm, kind, mask, mtch, lay⟩ nm) 42)
  exact ⟨rfl, d2.trans (b7.mono d2.size)⟩
end Go.Proofs.Yteelconabmfnkaa
