/- Tda: several texts in one. -/
import Derived.Test.YteelconabmfnkaaTc
/- (table.spec).one at lines of the table. -/
namespace Go.Proofs.Yteelconabmfnkaa
open Go Go.RowKit
set_option maxHeartbeats 4000000
set_option maxRecDepth 100000
set_option linter.unusedVariables false
set_option linter.unusedSimpArgs false
theorem cells_1 {w W : World} {r : R7} (h : St w W sp1 r) : W.cell? ⟨w.heap.size, 0, none⟩ = some (.int .u8 1) ∧ W.cell? ⟨w.heap.size, 2, none⟩ = some (.int .u32 7) ∧ W.cell? ⟨w.heap.size, 3, none⟩ = some (.int .i64 (-1)) ∧ W.cell? ⟨w.heap.size, 4, none⟩ = some (.int .i64 (0)) ∧ W.cell? ⟨w.heap.size, 5, none⟩ = some (.int .i64 (-1)) ∧ W.cell? ⟨w.heap.size, 6, none⟩ = some (.int .u8 1) ∧ W.cell? ⟨w.heap.size + 1 + 1, 2, none⟩ = some (.int .u8 (r.frm : Nat)) ∧ W.cell? ⟨w.heap.size + 1 + 1, 3, none⟩ = some (.int .u8 (r.kind : Nat)) :=
  ⟨h.sp.cell 0, h.sp.cell 2, h.sp.cell 3, h.sp.cell 4, h.sp.cell 5, h.sp.cell 6, h.ent.cell 2, h.ent.cell 3⟩
theorem one_1 (w : World) (f n : Nat) (hf : f < 4) (hn : n < 4) : Calls Try.prog 87 #[.agg (specV sp1), .int .u8 f, .int .i64 n] w (OneP w (ONE sp1 f n)) := by
  show Calls Try.prog 87 #[.agg #[.int .u8 1, .string ⟨#[102, 108]⟩, .int .u32 7, .int .i64 (-1), .int .i64 (0), .int .i64 (-1), .int .u8 1], .int .u8 f, .int .i64 n] w (OneP w (ONE sp1 f n))
  rcases (by omega : f = 0 ∨ f = 1 ∨ f = 2 ∨ f = 3) with rfl | rfl | rfl | rfl
  · skip
    have P0 : Hid (∀ W r, St w W sp1 r → Calls Try.prog 99 #[.pointer (some ⟨w.heap.size + 1 + 1, 0, none⟩), .int .i64 0, .int .i64 7, .int .u32 7] W fun e W' => e = .returned (.tuple #[]) ∧ St w W' sp1 (pt0 (7) r)) := Lib.hid fun W r h => st_put0 h (7) (by decide)
    have P1 : Hid (∀ W r, St w W sp1 r → Calls Try.prog 99 #[.pointer (some ⟨w.heap.size + 1 + 1, 0, none⟩), .int .i64 12, .int .i64 3, .int .u32 2] W fun e W' => e = .returned (.tuple #[]) ∧ St w W' sp1 (pt12 (2) r)) := Lib.hid fun W r h => st_put12 h (2) (by decide)
    have h0 : St w (((w.alloc (.cells #[.int .u8 1, .string ⟨#[102, 108]⟩, .int .u32 7, .int .i64 (-1), .int .i64 (0), .int .i64 (-1), .int .u8 1] 116)).alloc (.cells #[.int .u8 0, .int .u8 0, .int .u8 0, .int .u8 0, .int .u32 0, .int .u32 0, .int .u8 0, .string ⟨#[]⟩] 119)).alloc (.cells #[.int .u8 1, .int .u8 0, .int .u8 0, .int .u8 0, .int .u32 0, .int .u32 0, .int .u8 1, .string ⟨#[]⟩] 119)) sp1 ⟨1, 0, 0, 0, 0, 0, 1⟩ := st_start w sp1 0
    obtain ⟨a0, a2, a3, a4, a5, a6, d2, d3⟩ := cells_1 h0
    have hix : ∀ w, (Instr.index 146 (.agg #[.int .u8 2, .int .u8 3, .int .u8 1, .int .u8 4]) (.int .u8 0)).run Try.prog w = .ok (.int .u8 2) w := fun w => by kernel_rfl
    go_enter Try.func87, Try.ntmps87
    go_wp2_with (first
      | (go_at_call 99; (with_reducible refine (P0.out _ _ h0).mono ?_); rintro e w1 ⟨rfl, h1⟩; clear P0; obtain ⟨a0, a2, a3, a4, a5, a6, d2, d3⟩ := cells_1 h1))
    go_quiet (fail)
    go_wp2_with (first
      | (go_at_call 99; (with_reducible refine (P1.out _ _ (h1.drewN _)).mono ?_); rintro e w2 ⟨rfl, h2⟩; clear P1; obtain ⟨a0, a2, a3, a4, a5, a6, d2, d3⟩ := cells_1 h2)
      | (refine wpList_load_blk rfl _ _ rfl _ rfl _ _ _ h2.ent Try.underlying119 rfl (by kernel_rfl) ?_)
      | (refine wpList_store_blk rfl _ _ _ rfl _ _ rfl rfl _ _ h2.res (by kernel_rfl) rfl (by simp [Value.oneCell']) ?_))
    exact bodyPost_ret (results_cell rfl _ _ (w.heap.size + 1) _ _ _ rfl (h2.res.row _) Try.underlying119 rfl (by kernel_rfl)) rfl ⟨rfl, below_setRow h2.bel (by omega) _⟩
  · skip
    have P0 : Hid (∀ W r, St w W sp1 r → Calls Try.prog 99 #[.pointer (some ⟨w.heap.size + 1 + 1, 0, none⟩), .int .i64 0, .int .i64 7, .int .u32 7] W fun e W' => e = .returned (.tuple #[]) ∧ St w W' sp1 (pt0 (7) r)) := Lib.hid fun W r h => st_put0 h (7) (by decide)
    have P1 : Hid (∀ W r, St w W sp1 r → Calls Try.prog 99 #[.pointer (some ⟨w.heap.size + 1 + 1, 0, none⟩), .int .i64 12, .int .i64 3, .int .u32 3] W fun e W' => e = .returned (.tuple #[]) ∧ St w W' sp1 (pt12 (3) r)) := Lib.hid fun W r h => st_put12 h (3) (by decide)
    have h0 : St w (((w.alloc (.cells #[.int .u8 1, .string ⟨#[102, 108]⟩, .int .u32 7, .int .i64 (-1), .int .i64 (0), .int .i64 (-1), .int .u8 1] 116)).alloc (.cells #[.int .u8 0, .int .u8 0, .int .u8 0, .int .u8 0, .int .u32 0, .int .u32 0, .int .u8 0, .string ⟨#[]⟩] 119)).alloc (.cells #[.int .u8 1, .int .u8 1, .int .u8 0, .int .u8 0, .int .u32 0, .int .u32 0, .int .u8 1, .string ⟨#[]⟩] 119)) sp1 ⟨1, 1, 0, 0, 0, 0, 1⟩ := st_start w sp1 1
    obtain ⟨a0, a2, a3, a4, a5, a6, d2, d3⟩ := cells_1 h0
    have hix : ∀ w, (Instr.index 146 (.agg #[.int .u8 2, .int .u8 3, .int .u8 1, .int .u8 4]) (.int .u8 1)).run Try.prog w = .ok (.int .u8 3) w := fun w => by kernel_rfl
    go_enter Try.func87, Try.ntmps87
    go_wp2_with (first
      | (go_at_call 99; (with_reducible refine (P0.out _ _ h0).mono ?_); rintro e w1 ⟨rfl, h1⟩; clear P0; obtain ⟨a0, a2, a3, a4, a5, a6, d2, d3⟩ := cells_1 h1))
    go_quiet (fail)
    go_wp2_with (first
      | (go_at_call 99; (with_reducible refine (P1.out _ _ (h1.drewN _)).mono ?_); rintro e w2 ⟨rfl, h2⟩; clear P1; obtain ⟨a0, a2, a3, a4, a5, a6, d2, d3⟩ := cells_1 h2)
      | (refine wpList_load_blk rfl _ _ rfl _ rfl _ _ _ h2.ent Try.underlying119 rfl (by kernel_rfl) ?_)
      | (refine wpList_store_blk rfl _ _ _ rfl _ _ rfl rfl _ _ h2.res (by kernel_rfl) rfl (by simp [Value.oneCell']) ?_))
    exact bodyPost_ret (results_cell rfl _ _ (w.heap.size + 1) _ _ _ rfl (h2.res.row _) Try.underlying119 rfl (by kernel_rfl)) rfl ⟨rfl, below_setRow h2.bel (by omega) _⟩
  · skip
    have P0 : Hid (∀ W r, St w W sp1 r → Calls Try.prog 99 #[.pointer (some ⟨w.heap.size + 1 + 1, 0, none⟩), .int .i64 0, .int .i64 7, .int .u32 7] W fun e W' => e = .returned (.tuple #[]) ∧ St w W' sp1 (pt0 (7) r)) := Lib.hid fun W r h => st_put0 h (7) (by decide)
    have P1 : Hid (∀ W r, St w W sp1 r → Calls Try.prog 99 #[.pointer (some ⟨w.heap.size + 1 + 1, 0, none⟩), .int .i64 12, .int .i64 3, .int .u32 1] W fun e W' => e = .returned (.tuple #[]) ∧ St w W' sp1 (pt12 (1) r)) := Lib.hid fun W r h => st_put12 h (1) (by decide)
    have h0 : St w (((w.alloc (.cells #[.int .u8 1, .string ⟨#[102, 108]⟩, .int .u32 7, .int .i64 (-1), .int .i64 (0), .int .i64 (-1), .int .u8 1] 116)).alloc (.cells #[.int .u8 0, .int .u8 0, .int .u8 0, .int .u8 0, .int .u32 0, .int .u32 0, .int .u8 0, .string ⟨#[]⟩] 119)).alloc (.cells #[.int .u8 1, .int .u8 2, .int .u8 0, .int .u8 0, .int .u32 0, .int .u32 0, .int .u8 1, .string ⟨#[]⟩] 119)) sp1 ⟨1, 2, 0, 0, 0, 0, 1⟩ := st_start w sp1 2
    obtain ⟨a0, a2, a3, a4, a5, a6, d2, d3⟩ := cells_1 h0
    have hix : ∀ w, (Instr.index 146 (.agg #[.int .u8 2, .int .u8 3, .int .u8 1, .int .u8 4]) (.int .u8 2)).run Try.prog w = .ok (.int .u8 1) w := fun w => by kernel_rfl
    go_enter Try.func87, Try.ntmps87
    go_wp2_with (first
      | (go_at_call 99; (with_reducible refine (P0.out _ _ h0).mono ?_); rintro e w1 ⟨rfl, h1⟩; clear P0; obtain ⟨a0, a2, a3, a4, a5, a6, d2, d3⟩ := cells_1 h1))
    go_quiet (fail)
    go_wp2_with (first
      | (go_at_call 99; (with_reducible refine (P1.out _ _ (h1.drewN _)).mono ?_); rintro e w2 ⟨rfl, h2⟩; clear P1; obtain ⟨a0, a2, a3, a4, a5, a6, d2, d3⟩ := cells_1 h2)
      | (refine wpList_load_blk rfl _ _ rfl _ rfl _ _ _ h2.ent Try.underlying119 rfl (by kernel_rfl) ?_)
      | (refine wpList_store_blk rfl _ _ _ rfl _ _ rfl rfl _ _ h2.res (by kernel_rfl) rfl (by simp [Value.oneCell']) ?_))
    exact bodyPost_ret (results_cell rfl _ _ (w.heap.size + 1) _ _ _ rfl (h2.res.row _) Try.underlying119 rfl (by kernel_rfl)) rfl ⟨rfl, below_setRow h2.bel (by omega) _⟩
  · skip
    have P0 : Hid (∀ W r, St w W sp1 r → Calls Try.prog 99 #[.pointer (some ⟨w.heap.size + 1 + 1, 0, none⟩), .int .i64 0, .int .i64 7, .int .u32 7] W fun e W' => e = .returned (.tuple #[]) ∧ St w W' sp1 (pt0 (7) r)) := Lib.hid fun W r h => st_put0 h (7) (by decide)
    have P1 : Hid (∀ W r, St w W sp1 r → Calls Try.prog 99 #[.pointer (some ⟨w.heap.size + 1 + 1, 0, none⟩), .int .i64 12, .int .i64 3, .int .u32 4] W fun e W' => e = .returned (.tuple #[]) ∧ St w W' sp1 (pt12 (4) r)) := Lib.hid fun W r h => st_put12 h (4) (by decide)
    have h0 : St w (((w.alloc (.cells #[.int .u8 1, .string ⟨#[102, 108]⟩, .int .u32 7, .int .i64 (-1), .int .i64 (0), .int .i64 (-1), .int .u8 1] 116)).alloc (.cells #[.int .u8 0, .int .u8 0, .int .u8 0, .int .u8 0, .int .u32 0, .int .u32 0, .int .u8 0, .string ⟨#[]⟩] 119)).alloc (.cells #[.int .u8 1, .int .u8 3, .int .u8 0, .int .u8 0, .int .u32 0, .int .u32 0, .int .u8 1, .string ⟨#[]⟩] 119)) sp1 ⟨1, 3, 0, 0, 0, 0, 1⟩ := st_start w sp1 3
    obtain ⟨a0, a2, a3, a4, a5, a6, d2, d3⟩ := cells_1 h0
    have hix : ∀ w, (Instr.index 146 (.agg #[.int .u8 2, .int .u8 3, .int .u8 1, .int .u8 4]) (.int .u8 3)).run Try.prog w = .ok (.int .u8 4) w := fun w => by kernel_rfl
    go_enter Try.func87, Try.ntmps87
    go_wp2_with (first
      | (go_at_call 99; (with_reducible refine (P0.out _ _ h0).mono ?_); rintro e w1 ⟨rfl, h1⟩; clear P0; obtain ⟨a0, a2, a3, a4, a5, a6, d2, d3⟩ := cells_1 h1))
    go_quiet (fail)
    go_wp2_with (first
      | (go_at_call 99; (with_reducible refine (P1.out _ _ (h1.drewN _)).mono ?_); rintro e w2 ⟨rfl, h2⟩; clear P1; obtain ⟨a0, a2, a3, a4, a5, a6, d2, d3⟩ := cells_1 h2)
      | (refine wpList_load_blk rfl _ _ rfl _ rfl _ _ _ h2.ent Try.underlying119 rfl (by kernel_rfl) ?_)
      | (refine wpList_store_blk rfl _ _ _ rfl _ _ rfl rfl _ _ h2.res (by kernel_rfl) rfl (by simp [Value.oneCell']) ?_))
    exact bodyPost_ret (results_cell rfl _ _ (w.heap.size + 1) _ _ _ rfl (h2.res.row _) Try.underlying119 rfl (by kernel_rfl)) rfl ⟨rfl, below_setRow h2.bel (by omega) _⟩
theorem cells_2 {w W : World} {r : R7} (h : St w W sp2 r) : W.cell? ⟨w.heap.size, 0, none⟩ = some (.int .u8 2) ∧ W.cell? ⟨w.heap.size, 2, none⟩ = some (.int .u32 39) ∧ W.cell? ⟨w.heap.size, 3, none⟩ = some (.int .i64 (-1)) ∧ W.cell? ⟨w.heap.size, 4, none⟩ = some (.int .i64 (0)) ∧ W.cell? ⟨w.heap.size, 5, none⟩ = some (.int .i64 (-1)) ∧ W.cell? ⟨w.heap.size, 6, none⟩ = some (.int .u8 2) ∧ W.cell? ⟨w.heap.size + 1 + 1, 2, none⟩ = some (.int .u8 (r.frm : Nat)) ∧ W.cell? ⟨w.heap.size + 1 + 1, 3, none⟩ = some (.int .u8 (r.kind : Nat)) :=
  ⟨h.sp.cell 0, h.sp.cell 2, h.sp.cell 3, h.sp.cell 4, h.sp.cell 5, h.sp.cell 6, h.ent.cell 2, h.ent.cell 3⟩
theorem one_2 (w : World) (f n : Nat) (hf : f < 4) (hn : n < 4) : Calls Try.prog 87 #[.agg (specV sp2), .int .u8 f, .int .i64 n] w (OneP w (ONE sp2 f n)) := by
  show Calls Try.prog 87 #[.agg #[.int .u8 2, .string ⟨#[102, 115]⟩, .int .u32 39, .int .i64 (-1), .int .i64 (0), .int .i64 (-1), .int .u8 2], .int .u8 f, .int .i64 n] w (OneP w (ONE sp2 f n))
  rcases (by omega : f = 0 ∨ f = 1 ∨ f = 2 ∨ f = 3) with rfl | rfl | rfl | rfl
  · skip
    have P0 : Hid (∀ W r, St w W sp2 r → Calls Try.prog 99 #[.pointer (some ⟨w.heap.size + 1 + 1, 0, none⟩), .int .i64 0, .int .i64 7, .int .u32 39] W fun e W' => e = .returned (.tuple #[]) ∧ St w W' sp2 (pt0 (39) r)) := Lib.hid fun W r h => st_put0 h (39) (by decide)
    have P1 : Hid (∀ W r, St w W sp2 r → Calls Try.prog 99 #[.pointer (some ⟨w.heap.size + 1 + 1, 0, none⟩), .int .i64 12, .int .i64 3, .int .u32 2] W fun e W' => e = .returned (.tuple #[]) ∧ St w W' sp2 (pt12 (2) r)) := Lib.hid fun W r h => st_put12 h (2) (by decide)
    have h0 : St w (((w.alloc (.cells #[.int .u8 2, .string ⟨#[102, 115]⟩, .int .u32 39, .int .i64 (-1), .int .i64 (0), .int .i64 (-1), .int .u8 2] 116)).alloc (.cells #[.int .u8 0, .int .u8 0, .int .u8 0, .int .u8 0, .int .u32 0, .int .u32 0, .int .u8 0, .string ⟨#[]⟩] 119)).alloc (.cells #[.int .u8 2, .int .u8 0, .int .u8 0, .int .u8 0, .int .u32 0, .int .u32 0, .int .u8 2, .string ⟨#[]⟩] 119)) sp2 ⟨2, 0, 0, 0, 0, 0, 2⟩ := st_start w sp2 0
    obtain ⟨a0, a2, a3, a4, a5, a6, d2, d3⟩ := cells_2 h0
    have hix : ∀ w, (Instr.index 146 (.agg #[.int .u8 2, .int .u8 3, .int .u8 1, .int .u8 4]) (.int .u8 0)).run Try.prog w = .ok (.int .u8 2) w := fun w => by kernel_rfl
    go_enter Try.func87, Try.ntmps87
    go_wp2_with (first
      | (go_at_call 99; (with_reducible refine (P0.out _ _ h0).mono ?_); rintro e w1 ⟨rfl, h1⟩; clear P0; obtain ⟨a0, a2, a3, a4, a5, a6, d2, d3⟩ := cells_2 h1))
    go_quiet (fail)
    go_wp2_with (first
      | (go_at_call 99; (with_reducible refine (P1.out _ _ (h1.drewN _)).mono ?_); rintro e w2 ⟨rfl, h2⟩; clear P1; obtain ⟨a0, a2, a3, a4, a5, a6, d2, d3⟩ := cells_2 h2)
      | (refine wpList_load_blk rfl _ _ rfl _ rfl _ _ _ h2.ent Try.underlying119 rfl (by kernel_rfl) ?_)
      | (refine wpList_store_blk rfl _ _ _ rfl _ _ rfl rfl _ _ h2.res (by kernel_rfl) rfl (by simp [Value.oneCell']) ?_))
    exact bodyPost_ret (results_cell rfl _ _ (w.heap.size + 1) _ _ _ rfl (h2.res.row _) Try.underlying119 rfl (by kernel_rfl)) rfl ⟨rfl, below_setRow h2.bel (by omega) _⟩
  · skip
    have P0 : Hid (∀ W r, St w W sp2 r → Calls Try.prog 99 #[.pointer (some ⟨w.heap.size + 1 + 1, 0, none⟩), .int .i64 0, .int .i64 7, .int .u32 39] W fun e W' => e = .returned (.tuple #[]) ∧ St w W' sp2 (pt0 (39) r)) := Lib.hid fun W r h => st_put0 h (39) (by decide)
    have P1 : Hid (∀ W r, St w W sp2 r → Calls Try.prog 99 #[.pointer (some ⟨w.heap.size + 1 + 1, 0, none⟩), .int .i64 12, .int .i64 3, .int .u32 3] W fun e W' => e = .returned (.tuple #[]) ∧ St w W' sp2 (pt12 (3) r)) := Lib.hid fun W r h => st_put12 h (3) (by decide)
    have h0 : St w (((w.alloc (.cells #[.int .u8 2, .string ⟨#[102, 115]⟩, .int .u32 39, .int .i64 (-1), .int .i64 (0), .int .i64 (-1), .int .u8 2] 116)).alloc (.cells #[.int .u8 0, .int .u8 0, .int .u8 0, .int .u8 0, .int .u32 0, .int .u32 0, .int .u8 0, .string ⟨#[]⟩] 119)).alloc (.cells #[.int .u8 2, .int .u8 1, .int .u8 0, .int .u8 0, .int .u32 0, .int .u32 0, .int .u8 2, .string ⟨#[]⟩] 119)) sp2 ⟨2, 1, 0, 0, 0, 0, 2⟩ := st_start w sp2 1
    obtain ⟨a0, a2, a3, a4, a5, a6, d2, d3⟩ := cells_2 h0
    have hix : ∀ w, (Instr.index 146 (.agg #[.int .u8 2, .int .u8 3, .int .u8 1, .int .u8 4]) (.int .u8 1)).run Try.prog w = .ok (.int .u8 3) w := fun w => by kernel_rfl
    go_enter Try.func87, Try.ntmps87
    go_wp2_with (first
      | (go_at_call 99; (with_reducible refine (P0.out _ _ h0).mono ?_); rintro e w1 ⟨rfl, h1⟩; clear P0; obtain ⟨a0, a2, a3, a4, a5, a6, d2, d3⟩ := cells_2 h1))
    go_quiet (fail)
    go_wp2_with (first
      | (go_at_call 99; (with_reducible refine (P1.out _ _ (h1.drewN _)).mono ?_); rintro e w2 ⟨rfl, h2⟩; clear P1; obtain ⟨a0, a2, a3, a4, a5, a6, d2, d3⟩ := cells_2 h2)
      | (refine wpList_load_blk rfl _ _ rfl _ rfl _ _ _ h2.ent Try.underlying119 rfl (by kernel_rfl) ?_)
      | (refine wpList_store_blk rfl _ _ _ rfl _ _ rfl rfl _ _ h2.res (by kernel_rfl) rfl (by simp [Value.oneCell']) ?_))
    exact bodyPost_ret (results_cell rfl _ _ (w.heap.size + 1) _ _ _ rfl (h2.res.row _) Try.underlying119 rfl (by kernel_rfl)) rfl ⟨rfl, below_setRow h2.bel (by omega) _⟩
  · skip
    have P0 : Hid (∀ W r, St w W sp2 r → Calls Try.prog 99 #[.pointer (some ⟨w.heap.size + 1 + 1, 0, none⟩), .int .i64 0, .int .i64 7, .int .u32 39] W fun e W' => e = .returned (.tuple #[]) ∧ St w W' sp2 (pt0 (39) r)) := Lib.hid fun W r h => st_put0 h (39) (by decide)
    have P1 : Hid (∀ W r, St w W sp2 r → Calls Try.prog 99 #[.pointer (some ⟨w.heap.size + 1 + 1, 0, none⟩), .int .i64 12, .int .i64 3, .int .u32 1] W fun e W' => e = .returned (.tuple #[]) ∧ St w W' sp2 (pt12 (1) r)) := Lib.hid fun W r h => st_put12 h (1) (by decide)
    have h0 : St w (((w.alloc (.cells #[.int .u8 2, .string ⟨#[102, 115]⟩, .int .u32 39, .int .i64 (-1), .int .i64 (0), .int .i64 (-1), .int .u8 2] 116)).alloc (.cells #[.int .u8 0, .int .u8 0, .int .u8 0, .int .u8 0, .int .u32 0, .int .u32 0, .int .u8 0, .string ⟨#[]⟩] 119)).alloc (.cells #[.int .u8 2, .int .u8 2, .int .u8 0, .int .u8 0, .int .u32 0, .int .u32 0, .int .u8 2, .string ⟨#[]⟩] 119)) sp2 ⟨2, 2, 0, 0, 0, 0, 2⟩ := st_start w sp2 2
    obtain ⟨a0, a2, a3, a4, a5, a6, d2, d3⟩ := cells_2 h0
    have hix : ∀ w, (Instr.index 146 (.agg #[.int .u8 2, .int .u8 3, .int .u8 1, .int .u8 4]) (.int .u8 2)).run Try.prog w = .ok (.int .u8 1) w := fun w => by kernel_rfl
    go_enter Try.func87, Try.ntmps87
    go_wp2_with (first
      | (go_at_call 99; (with_reducible refine (P0.out _ _ h0).mono ?_); rintro e w1 ⟨rfl, h1⟩; clear P0; obtain ⟨a0, a2, a3, a4, a5, a6, d2, d3⟩ := cells_2 h1))
    go_quiet (fail)
    go_wp2_with (first
      | (go_at_call 99; (with_reducible refine (P1.out _ _ (h1.drewN _)).mono ?_); rintro e w2 ⟨rfl, h2⟩; clear P1; obtain ⟨a0, a2, a3, a4, a5, a6, d2, d3⟩ := cells_2 h2)
      | (refine wpList_load_blk rfl _ _ rfl _ rfl _ _ _ h2.ent Try.underlying119 rfl (by kernel_rfl) ?_)
      | (refine wpList_store_blk rfl _ _ _ rfl _ _ rfl rfl _ _ h2.res (by kernel_rfl) rfl (by simp [Value.oneCell']) ?_))
    exact bodyPost_ret (results_cell rfl _ _ (w.heap.size + 1) _ _ _ rfl (h2.res.row _) Try.underlying119 rfl (by kernel_rfl)) rfl ⟨rfl, below_setRow h2.bel (by omega) _⟩
  · skip
    have P0 : Hid (∀ W r, St w W sp2 r → Calls Try.prog 99 #[.pointer (some ⟨w.heap.size + 1 + 1, 0, none⟩), .int .i64 0, .int .i64 7, .int .u32 39] W fun e W' => e = .returned (.tuple #[]) ∧ St w W' sp2 (pt0 (39) r)) := Lib.hid fun W r h => st_put0 h (39) (by decide)
    have P1 : Hid (∀ W r, St w W sp2 r → Calls Try.prog 99 #[.pointer (some ⟨w.heap.size + 1 + 1, 0, none⟩), .int .i64 12, .int .i64 3, .int .u32 4] W fun e W' => e = .returned (.tuple #[]) ∧ St w W' sp2 (pt12 (4) r)) := Lib.hid fun W r h => st_put12 h (4) (by decide)
    have h0 : St w (((w.alloc (.cells #[.int .u8 2, .string ⟨#[102, 115]⟩, .int .u32 39, .int .i64 (-1), .int .i64 (0), .int .i64 (-1), .int .u8 2] 116)).alloc (.cells #[.int .u8 0, .int .u8 0, .int .u8 0, .int .u8 0, .int .u32 0, .int .u32 0, .int .u8 0, .string ⟨#[]⟩] 119)).alloc (.cells #[.int .u8 2, .int .u8 3, .int .u8 0, .int .u8 0, .int .u32 0, .int .u32 0, .int .u8 2, .string ⟨#[]⟩] 119)) sp2 ⟨2, 3, 0, 0, 0, 0, 2⟩ := st_start w sp2 3
    obtain ⟨a0, a2, a3, a4, a5, a6, d2, d3⟩ := cells_2 h0
    have hix : ∀ w, (Instr.index 146 (.agg #[.int .u8 2, .int .u8 3, .int .u8 1, .int .u8 4]) (.int .u8 3)).run Try.prog w = .ok (.int .u8 4) w := fun w => by kernel_rfl
    go_enter Try.func87, Try.ntmps87
    go_wp2_with (first
      | (go_at_call 99; (with_reducible refine (P0.out _ _ h0).mono ?_); rintro e w1 ⟨rfl, h1⟩; clear P0; obtain ⟨a0, a2, a3, a4, a5, a6, d2, d3⟩ := cells_2 h1))
    go_quiet (fail)
    go_wp2_with (first
      | (go_at_call 99; (with_reducible refine (P1.out _ _ (h1.drewN _)).mono ?_); rintro e w2 ⟨rfl, h2⟩; clear P1; obtain ⟨a0, a2, a3, a4, a5, a6, d2, d3⟩ := cells_2 h2)
      | (refine wpList_load_blk rfl _ _ rfl _ rfl _ _ _ h2.ent Try.underlying119 rfl (by kernel_rfl) ?_)
      | (refine wpList_store_blk rfl _ _ _ rfl _ _ rfl rfl _ _ h2.res (by kernel_rfl) rfl (by simp [Value.oneCell']) ?_))
    exact bodyPost_ret (results_cell rfl _ _ (w.heap.size + 1) _ _ _ rfl (h2.res.row _) Try.underlying119 rfl (by kernel_rfl)) rfl ⟨rfl, below_setRow h2.bel (by omega) _⟩
theorem cells_3 {w W : World} {r : R7} (h : St w W sp3 r) : W.cell? ⟨w.heap.size, 0, none⟩ = some (.int .u8 3) ∧ W.cell? ⟨w.heap.size, 2, none⟩ = some (.int .u32 67) ∧ W.cell? ⟨w.heap.size, 3, none⟩ = some (.int .i64 (-1)) ∧ W.cell? ⟨w.heap.size, 4, none⟩ = some (.int .i64 (-1)) ∧ W.cell? ⟨w.heap.size, 5, none⟩ = some (.int .i64 (-1)) ∧ W.cell? ⟨w.heap.size, 6, none⟩ = some (.int .u8 3) ∧ W.cell? ⟨w.heap.size + 1 + 1, 2, none⟩ = some (.int .u8 (r.frm : Nat)) ∧ W.cell? ⟨w.heap.size + 1 + 1, 3, none⟩ = some (.int .u8 (r.kind : Nat)) :=
  ⟨h.sp.cell 0, h.sp.cell 2, h.sp.cell 3, h.sp.cell 4, h.sp.cell 5, h.sp.cell 6, h.ent.cell 2, h.ent.cell 3⟩
theorem one_3 (w : World) (f n : Nat) (hf : f < 4) (hn : n < 4) : Calls Try.prog 87 #[.agg (specV sp3), .int .u8 f, .int .i64 n] w (OneP w (ONE sp3 f n)) := by
  show Calls Try.prog 87 #[.agg #[.int .u8 3, .string ⟨#[102, 109, 97, 100, 100]⟩, .int .u32 67, .int .i64 (-1), .int .i64 (-1), .int .i64 (-1), .int .u8 3], .int .u8 f, .int .i64 n] w (OneP w (ONE sp3 f n))
  have P0 : Hid (∀ W r, St w W sp3 r → Calls Try.prog 99 #[.pointer (some ⟨w.heap.size + 1 + 1, 0, none⟩), .int .i64 0, .int .i64 7, .int .u32 67] W fun e W' => e = .returned (.tuple #[]) ∧ St w W' sp3 (pt0 (67) r)) := Lib.hid fun W r h => st_put0 h (67) (by decide)
  have P1 : Hid (∀ W r, St w W sp3 r → Calls Try.prog 99 #[.pointer (some ⟨w.heap.size + 1 + 1, 0, none⟩), .int .i64 25, .int .i64 2, .int .u32 (f : Nat)] W fun e W' => e = .returned (.tuple #[]) ∧ St w W' sp3 (pt25 (f) r)) := Lib.hid fun W r h => st_put25 h (f) (by omega)
  have h0 : St w (((w.alloc (.cells #[.int .u8 3, .string ⟨#[102, 109, 97, 100, 100]⟩, .int .u32 67, .int .i64 (-1), .int .i64 (-1), .int .i64 (-1), .int .u8 3] 116)).alloc (.cells #[.int .u8 0, .int .u8 0, .int .u8 0, .int .u8 0, .int .u32 0, .int .u32 0, .int .u8 0, .string ⟨#[]⟩] 119)).alloc (.cells #[.int .u8 3, .int .u8 (f : Nat), .int .u8 0, .int .u8 0, .int .u32 0, .int .u32 0, .int .u8 3, .string ⟨#[]⟩] 119)) sp3 ⟨3, (f : Nat), 0, 0, 0, 0, 3⟩ := st_start w sp3 f
  obtain ⟨a0, a2, a3, a4, a5, a6, d2, d3⟩ := cells_3 h0
  go_enter Try.func87, Try.ntmps87
  go_wp2_with (first
    | (go_at_call 99; (with_reducible refine (P0.out _ _ h0).mono ?_); rintro e w1 ⟨rfl, h1⟩; clear P0; obtain ⟨a0, a2, a3, a4, a5, a6, d2, d3⟩ := cells_3 h1))
  go_quiet (fail)
  go_wp2_with (first
    | (go_at_call 99; (with_reducible refine (P1.out _ _ (h1.drewN _)).mono ?_); rintro e w2 ⟨rfl, h2⟩; clear P1; obtain ⟨a0, a2, a3, a4, a5, a6, d2, d3⟩ := cells_3 h2)
    | (refine wpList_load_blk rfl _ _ rfl _ rfl _ _ _ h2.ent Try.underlying119 rfl (by kernel_rfl) ?_)
    | (refine wpList_store_blk rfl _ _ _ rfl _ _ rfl rfl _ _ h2.res (by kernel_rfl) rfl (by simp [Value.oneCell']) ?_))
  exact bodyPost_ret (results_cell rfl _ _ (w.heap.size + 1) _ _ _ rfl (h2.res.row _) Try.underlying119 rfl (by kernel_rfl)) rfl ⟨rfl, below_setRow h2.bel (by omega) _⟩
theorem cells_4 {w W : World} {r : R7} (h : St w W sp4 r) : W.cell? ⟨w.heap.size, 0, none⟩ = some (.int .u8 4) ∧ W.cell? ⟨w.heap.size, 2, none⟩ = some (.int .u32 71) ∧ W.cell? ⟨w.heap.size, 3, none⟩ = some (.int .i64 (-1)) ∧ W.cell? ⟨w.heap.size, 4, none⟩ = some (.int .i64 (-1)) ∧ W.cell? ⟨w.heap.size, 5, none⟩ = some (.int .i64 (-1)) ∧ W.cell? ⟨w.heap.size, 6, none⟩ = some (.int .u8 3) ∧ W.cell? ⟨w.heap.size + 1 + 1, 2, none⟩ = some (.int .u8 (r.frm : Nat)) ∧ W.cell? ⟨w.heap.size + 1 + 1, 3, none⟩ = some (.int .u8 (r.kind : Nat)) :=
  ⟨h.sp.cell 0, h.sp.cell 2, h.sp.cell 3, h.sp.cell 4, h.sp.cell 5, h.sp.cell 6, h.ent.cell 2, h.ent.cell 3⟩
theorem one_4 (w : World) (f n : Nat) (hf : f < 4) (hn : n < 4) : Calls Try.prog 87 #[.agg (specV sp4), .int .u8 f, .int .i64 n] w (OneP w (ONE sp4 f n)) := by
  show Calls Try.prog 87 #[.agg #[.int .u8 4, .string ⟨#[102, 109, 115, 117, 98]⟩, .int .u32 71, .int .i64 (-1), .int .i64 (-1), .int .i64 (-1), .int .u8 3], .int .u8 f, .int .i64 n] w (OneP w (ONE sp4 f n))
  have P0 : Hid (∀ W r, St w W sp4 r → Calls Try.prog 99 #[.pointer (some ⟨w.heap.size + 1 + 1, 0, none⟩), .int .i64 0, .int .i64 7, .int .u32 71] W fun e W' => e = .returned (.tuple #[]) ∧ St w W' sp4 (pt0 (71) r)) := Lib.hid fun W r h => st_put0 h (71) (by decide)
  have P1 : Hid (∀ W r, St w W sp4 r → Calls Try.prog 99 #[.pointer (some ⟨w.heap.size + 1 + 1, 0, none⟩), .int .i64 25, .int .i64 2, .int .u32 (f : Nat)] W fun e W' => e = .returned (.tuple #[]) ∧ St w W' sp4 (pt25 (f) r)) := Lib.hid fun W r h => st_put25 h (f) (by omega)
  have h0 : St w (((w.alloc (.cells #[.int .u8 4, .string ⟨#[102, 109, 115, 117, 98]⟩, .int .u32 71, .int .i64 (-1), .int .i64 (-1), .int .i64 (-1), .int .u8 3] 116)).alloc (.cells #[.int .u8 0, .int .u8 0, .int .u8 0, .int .u8 0, .int .u32 0, .int .u32 0, .int .u8 0, .string ⟨#[]⟩] 119)).alloc (.cells #[.int .u8 4, .int .u8 (f : Nat), .int .u8 0, .int .u8 0, .int .u32 0, .int .u32 0, .int .u8 3, .string ⟨#[]⟩] 119)) sp4 ⟨4, (f : Nat), 0, 0, 0, 0, 3⟩ := st_start w sp4 f
  obtain ⟨a0, a2, a3, a4, a5, a6, d2, d3⟩ := cells_4 h0
  go_enter Try.func87, Try.ntmps87
  go_wp2_with (first
    | (go_at_call 99; (with_reducible refine (P0.out _ _ h0).mono ?_); rintro e w1 ⟨rfl, h1⟩; clear P0; obtain ⟨a0, a2, a3, a4, a5, a6, d2, d3⟩ := cells_4 h1))
  go_quiet (fail)
  go_wp2_with (first
    | (go_at_call 99; (with_reducible refine (P1.out _ _ (h1.drewN _)).mono ?_); rintro e w2 ⟨rfl, h2⟩; clear P1; obtain ⟨a0, a2, a3, a4, a5, a6, d2, d3⟩ := cells_4 h2)
    | (refine wpList_load_blk rfl _ _ rfl _ rfl _ _ _ h2.ent Try.underlying119 rfl (by kernel_rfl) ?_)
    | (refine wpList_store_blk rfl _ _ _ rfl _ _ rfl rfl _ _ h2.res (by kernel_rfl) rfl (by simp [Value.oneCell']) ?_))
  exact bodyPost_ret (results_cell rfl _ _ (w.heap.size + 1) _ _ _ rfl (h2.res.row _) Try.underlying119 rfl (by kernel_rfl)) rfl ⟨rfl, below_setRow h2.bel (by omega) _⟩
theorem cells_5 {w W : World} {r : R7} (h : St w W sp5 r) : W.cell? ⟨w.heap.size, 0, none⟩ = some (.int .u8 5) ∧ W.cell? ⟨w.heap.size, 2, none⟩ = some (.int .u32 75) ∧ W.cell? ⟨w.heap.size, 3, none⟩ = some (.int .i64 (-1)) ∧ W.cell? ⟨w.heap.size, 4, none⟩ = some (.int .i64 (-1)) ∧ W.cell? ⟨w.heap.size, 5, none⟩ = some (.int .i64 (-1)) ∧ W.cell? ⟨w.heap.size, 6, none⟩ = some (.int .u8 3) ∧ W.cell? ⟨w.heap.size + 1 + 1, 2, none⟩ = some (.int .u8 (r.frm : Nat)) ∧ W.cell? ⟨w.heap.size + 1 + 1, 3, none⟩ = some (.int .u8 (r.kind : Nat)) :=
  ⟨h.sp.cell 0, h.sp.cell 2, h.sp.cell 3, h.sp.cell 4, h.sp.cell 5, h.sp.cell 6, h.ent.cell 2, h.ent.cell 3⟩
theorem one_5 (w : World) (f n : Nat) (hf : f < 4) (hn : n < 4) : Calls Try.prog 87 #[.agg (specV sp5), .int .u8 f, .int .i64 n] w (OneP w (ONE sp5 f n)) := by
  show Calls Try.prog 87 #[.agg #[.int .u8 5, .string ⟨#[102, 110, 109, 115, 117, 98]⟩, .int .u32 75, .int .i64 (-1), .int .i64 (-1), .int .i64 (-1), .int .u8 3], .int .u8 f, .int .i64 n] w (OneP w (ONE sp5 f n))
  have P0 : Hid (∀ W r, St w W sp5 r → Calls Try.prog 99 #[.pointer (some ⟨w.heap.size + 1 + 1, 0, none⟩), .int .i64 0, .int .i64 7, .int .u32 75] W fun e W' => e = .returned (.tuple #[]) ∧ St w W' sp5 (pt0 (75) r)) := Lib.hid fun W r h => st_put0 h (75) (by decide)
  have P1 : Hid (∀ W r, St w W sp5 r → Calls Try.prog 99 #[.pointer (some ⟨w.heap.size + 1 + 1, 0, none⟩), .int .i64 25, .int .i64 2, .int .u32 (f : Nat)] W fun e W' => e = .returned (.tuple #[]) ∧ St w W' sp5 (pt25 (f) r)) := Lib.hid fun W r h => st_put25 h (f) (by omega)
  have h0 : St w (((w.alloc (.cells #[.int .u8 5, .string ⟨#[102, 110, 109, 115, 117, 98]⟩, .int .u32 75, .int .i64 (-1), .int .i64 (-1), .int .i64 (-1), .int .u8 3] 116)).alloc (.cells #[.int .u8 0, .int .u8 0, .int .u8 0, .int .u8 0, .int .u32 0, .int .u32 0, .int .u8 0, .string ⟨#[]⟩] 119)).alloc (.cells #[.int .u8 5, .int .u8 (f : Nat), .int .u8 0, .int .u8 0, .int .u32 0, .int .u32 0, .int .u8 3, .string ⟨#[]⟩] 119)) sp5 ⟨5, (f : Nat), 0, 0, 0, 0, 3⟩ := st_start w sp5 f
  obtain ⟨a0, a2, a3, a4, a5, a6, d2, d3⟩ := cells_5 h0
  go_enter Try.func87, Try.ntmps87
  go_wp2_with (first
    | (go_at_call 99; (with_reducible refine (P0.out _ _ h0).mono ?_); rintro e w1 ⟨rfl, h1⟩; clear P0; obtain ⟨a0, a2, a3, a4, a5, a6, d2, d3⟩ := cells_5 h1))
  go_quiet (fail)
  go_wp2_with (first
    | (go_at_call 99; (with_reducible refine (P1.out _ _ (h1.drewN _)).mono ?_); rintro e w2 ⟨rfl, h2⟩; clear P1; obtain ⟨a0, a2, a3, a4, a5, a6, d2, d3⟩ := cells_5 h2)
    | (refine wpList_load_blk rfl _ _ rfl _ rfl _ _ _ h2.ent Try.underlying119 rfl (by kernel_rfl) ?_)
    | (refine wpList_store_blk rfl _ _ _ rfl _ _ rfl rfl _ _ h2.res (by kernel_rfl) rfl (by simp [Value.oneCell']) ?_))
  exact bodyPost_ret (results_cell rfl _ _ (w.heap.size + 1) _ _ _ rfl (h2.res.row _) Try.underlying119 rfl (by kernel_rfl)) rfl ⟨rfl, below_setRow h2.bel (by omega) _⟩
theorem cells_6 {w W : World} {r : R7} (h : St w W sp6 r) : W.cell? ⟨w.heap.size, 0, none⟩ = some (.int .u8 6) ∧ W.cell? ⟨w.heap.size, 2, none⟩ = some (.int .u32 79) ∧ W.cell? ⟨w.heap.size, 3, none⟩ = some (.int .i64 (-1)) ∧ W.cell? ⟨w.heap.size, 4, none⟩ = some (.int .i64 (-1)) ∧ W.cell? ⟨w.heap.size, 5, none⟩ = some (.int .i64 (-1)) ∧ W.cell? ⟨w.heap.size, 6, none⟩ = some (.int .u8 3) ∧ W.cell? ⟨w.heap.size + 1 + 1, 2, none⟩ = some (.int .u8 (r.frm : Nat)) ∧ W.cell? ⟨w.heap.size + 1 + 1, 3, none⟩ = some (.int .u8 (r.kind : Nat)) :=
  ⟨h.sp.cell 0, h.sp.cell 2, h.sp.cell 3, h.sp.cell 4, h.sp.cell 5, h.sp.cell 6, h.ent.cell 2, h.ent.cell 3⟩
theorem one_6 (w : World) (f n : Nat) (hf : f < 4) (hn : n < 4) : Calls Try.prog 87 #[.agg (specV sp6), .int .u8 f, .int .i64 n] w (OneP w (ONE sp6 f n)) := by
  show Calls Try.prog 87 #[.agg #[.int .u8 6, .string ⟨#[102, 110, 109, 97, 100, 100]⟩, .int .u32 79, .int .i64 (-1), .int .i64 (-1), .int .i64 (-1), .int .u8 3], .int .u8 f, .int .i64 n] w (OneP w (ONE sp6 f n))
  have P0 : Hid (∀ W r, St w W sp6 r → Calls Try.prog 99 #[.pointer (some ⟨w.heap.size + 1 + 1, 0, none⟩), .int .i64 0, .int .i64 7, .int .u32 79] W fun e W' => e = .returned (.tuple #[]) ∧ St w W' sp6 (pt0 (79) r)) := Lib.hid fun W r h => st_put0 h (79) (by decide)
  have P1 : Hid (∀ W r, St w W sp6 r → Calls Try.prog 99 #[.pointer (some ⟨w.heap.size + 1 + 1, 0, none⟩), .int .i64 25, .int .i64 2, .int .u32 (f : Nat)] W fun e W' => e = .returned (.tuple #[]) ∧ St w W' sp6 (pt25 (f) r)) := Lib.hid fun W r h => st_put25 h (f) (by omega)
  have h0 : St w (((w.alloc (.cells #[.int .u8 6, .string ⟨#[102, 110, 109, 97, 100, 100]⟩, .int .u32 79, .int .i64 (-1), .int .i64 (-1), .int .i64 (-1), .int .u8 3] 116)).alloc (.cells #[.int .u8 0, .int .u8 0, .int .u8 0, .int .u8 0, .int .u32 0, .int .u32 0, .int .u8 0, .string ⟨#[]⟩] 119)).alloc (.cells #[.int .u8 6, .int .u8 (f : Nat), .int .u8 0, .int .u8 0, .int .u32 0, .int .u32 0, .int .u8 3, .string ⟨#[]⟩] 119)) sp6 ⟨6, (f : Nat), 0, 0, 0, 0, 3⟩ := st_start w sp6 f
  obtain ⟨a0, a2, a3, a4, a5, a6, d2, d3⟩ := cells_6 h0
  go_enter Try.func87, Try.ntmps87
  go_wp2_with (first
    | (go_at_call 99; (with_reducible refine (P0.out _ _ h0).mono ?_); rintro e w1 ⟨rfl, h1⟩; clear P0; obtain ⟨a0, a2, a3, a4, a5, a6, d2, d3⟩ := cells_6 h1))
  go_quiet (fail)
  go_wp2_with (first
    | (go_at_call 99; (with_reducible refine (P1.out _ _ (h1.drewN _)).mono ?_); rintro e w2 ⟨rfl, h2⟩; clear P1; obtain ⟨a0, a2, a3, a4, a5, a6, d2, d3⟩ := cells_6 h2)
    | (refine wpList_load_blk rfl _ _ rfl _ rfl _ _ _ h2.ent Try.underlying119 rfl (by kernel_rfl) ?_)
    | (refine wpList_store_blk rfl _ _ _ rfl _ _ rfl rfl _ _ h2.res (by kernel_rfl) rfl (by simp [Value.oneCell']) ?_))
  exact bodyPost_ret (results_cell rfl _ _ (w.heap.size + 1) _ _ _ rfl (h2.res.row _) Try.underlying119 rfl (by kernel_rfl)) rfl ⟨rfl, below_setRow h2.bel (by omega) _⟩
theorem cells_7 {w W : World} {r : R7} (h : St w W sp7 r) : W.cell? ⟨w.heap.size, 0, none⟩ = some (.int .u8 7) ∧ W.cell? ⟨w.heap.size, 2, none⟩ = some (.int .u32 83) ∧ W.cell? ⟨w.heap.size, 3, none⟩ = some (.int .i64 (0)) ∧ W.cell? ⟨w.heap.size, 4, none⟩ = some (.int .i64 (-1)) ∧ W.cell? ⟨w.heap.size, 5, none⟩ = some (.int .i64 (-1)) ∧ W.cell? ⟨w.heap.size, 6, none⟩ = some (.int .u8 4) ∧ W.cell? ⟨w.heap.size + 1 + 1, 2, none⟩ = some (.int .u8 (r.frm : Nat)) ∧ W.cell? ⟨w.heap.size + 1 + 1, 3, none⟩ = some (.int .u8 (r.kind : Nat)) :=
  ⟨h.sp.cell 0, h.sp.cell 2, h.sp.cell 3, h.sp.cell 4, h.sp.cell 5, h.sp.cell 6, h.ent.cell 2, h.ent.cell 3⟩
theorem one_7 (w : World) (f n : Nat) (hf : f < 4) (hn : n < 4) : Calls Try.prog 87 #[.agg (specV sp7), .int .u8 f, .int .i64 n] w (OneP w (ONE sp7 f n)) := by
  show Calls Try.prog 87 #[.agg #[.int .u8 7, .string ⟨#[102, 97, 100, 100]⟩, .int .u32 83, .int .i64 (0), .int .i64 (-1), .int .i64 (-1), .int .u8 4], .int .u8 f, .int .i64 n] w (OneP w (ONE sp7 f n))
  have P0 : Hid (∀ W r, St w W sp7 r → Calls Try.prog 99 #[.pointer (some ⟨w.heap.size + 1 + 1, 0, none⟩), .int .i64 0, .int .i64 7, .int .u32 83] W fun e W' => e = .returned (.tuple #[]) ∧ St w W' sp7 (pt0 (83) r)) := Lib.hid fun W r h => st_put0 h (83) (by decide)
  have P1 : Hid (∀ W r, St w W sp7 r → Calls Try.prog 99 #[.pointer (some ⟨w.heap.size + 1 + 1, 0, none⟩), .int .i64 25, .int .i64 2, .int .u32 (f : Nat)] W fun e W' => e = .returned (.tuple #[]) ∧ St w W' sp7 (pt25 (f) r)) := Lib.hid fun W r h => st_put25 h (f) (by omega)
  have P2 : Hid (∀ W r, St w W sp7 r → Calls Try.prog 99 #[.pointer (some ⟨w.heap.size + 1 + 1, 0, none⟩), .int .i64 27, .int .i64 5, .int .u32 0] W fun e W' => e = .returned (.tuple #[]) ∧ St w W' sp7 (pt27 (0) r)) := Lib.hid fun W r h => st_put27 h (0) (by decide)
  have h0 : St w (((w.alloc (.cells #[.int .u8 7, .string ⟨#[102, 97, 100, 100]⟩, .int .u32 83, .int .i64 (0), .int .i64 (-1), .int .i64 (-1), .int .u8 4] 116)).alloc (.cells #[.int .u8 0, .int .u8 0, .int .u8 0, .int .u8 0, .int .u32 0, .int .u32 0, .int .u8 0, .string ⟨#[]⟩] 119)).alloc (.cells #[.int .u8 7, .int .u8 (f : Nat), .int .u8 0, .int .u8 0, .int .u32 0, .int .u32 0, .int .u8 4, .string ⟨#[]⟩] 119)) sp7 ⟨7, (f : Nat), 0, 0, 0, 0, 4⟩ := st_start w sp7 f
  obtain ⟨a0, a2, a3, a4, a5, a6, d2, d3⟩ := cells_7 h0
  go_enter Try.func87, Try.ntmps87
  go_wp2_with (first
    | (go_at_call 99; (with_reducible refine (P0.out _ _ h0).mono ?_); rintro e w1 ⟨rfl, h1⟩; clear P0; obtain ⟨a0, a2, a3, a4, a5, a6, d2, d3⟩ := cells_7 h1))
  go_quiet (fail)
  go_wp2_with (first
    | (go_at_call 99; (with_reducible refine (P1.out _ _ (h1.drewN _)).mono ?_); rintro e w2 ⟨rfl, h2⟩; clear P1; obtain ⟨a0, a2, a3, a4, a5, a6, d2, d3⟩ := cells_7 h2)
    | (go_at_call 99; (with_reducible refine (P2.out _ _ h2).mono ?_); rintro e w3 ⟨rfl, h3⟩; clear P2; obtain ⟨a0, a2, a3, a4, a5, a6, d2, d3⟩ := cells_7 h3)
    | (refine wpList_load_blk rfl _ _ rfl _ rfl _ _ _ h3.ent Try.underlying119 rfl (by kernel_rfl) ?_)
    | (refine wpList_store_blk rfl _ _ _ rfl _ _ rfl rfl _ _ h3.res (by kernel_rfl) rfl (by simp [Value.oneCell']) ?_))
  exact bodyPost_ret (results_cell rfl _ _ (w.heap.size + 1) _ _ _ rfl (h3.res.row _) Try.underlying119 rfl (by kernel_rfl)) rfl ⟨rfl, below_setRow h3.bel (by omega) _⟩
theorem cells_8 {w W : World} {r : R7} (h : St w W sp8 r) : W.cell? ⟨w.heap.size, 0, none⟩ = some (.int .u8 8) ∧ W.cell? ⟨w.heap.size, 2, none⟩ = some (.int .u32 83) ∧ W.cell? ⟨w.heap.size, 3, none⟩ = some (.int .i64 (1)) ∧ W.cell? ⟨w.heap.size, 4, none⟩ = some (.int .i64 (-1)) ∧ W.cell? ⟨w.heap.size, 5, none⟩ = some (.int .i64 (-1)) ∧ W.cell? ⟨w.heap.size, 6, none⟩ = some (.int .u8 4) ∧ W.cell? ⟨w.heap.size + 1 + 1, 2, none⟩ = some (.int .u8 (r.frm : Nat)) ∧ W.cell? ⟨w.heap.size + 1 + 1, 3, none⟩ = some (.int .u8 (r.kind : Nat)) :=
  ⟨h.sp.cell 0, h.sp.cell 2, h.sp.cell 3, h.sp.cell 4, h.sp.cell 5, h.sp.cell 6, h.ent.cell 2, h.ent.cell 3⟩
theorem one_8 (w : World) (f n : Nat) (hf : f < 4) (hn : n < 4) : Calls Try.prog 87 #[.agg (specV sp8), .int .u8 f, .int .i64 n] w (OneP w (ONE sp8 f n)) := by
  show Calls Try.prog 87 #[.agg #[.int .u8 8, .string ⟨#[102, 115, 117, 98]⟩, .int .u32 83, .int .i64 (1), .int .i64 (-1), .int .i64 (-1), .int .u8 4], .int .u8 f, .int .i64 n] w (OneP w (ONE sp8 f n))
  have P0 : Hid (∀ W r, St w W sp8 r → Calls Try.prog 99 #[.pointer (some ⟨w.heap.size + 1 + 1, 0, none⟩), .int .i64 0, .int .i64 7, .int .u32 83] W fun e W' => e = .returned (.tuple #[]) ∧ St w W' sp8 (pt0 (83) r)) := Lib.hid fun W r h => st_put0 h (83) (by decide)
  have P1 : Hid (∀ W r, St w W sp8 r → Calls Try.prog 99 #[.pointer (some ⟨w.heap.size + 1 + 1, 0, none⟩), .int .i64 25, .int .i64 2, .int .u32 (f : Nat)] W fun e W' => e = .returned (.tuple #[]) ∧ St w W' sp8 (pt25 (f) r)) := Lib.hid fun W r h => st_put25 h (f) (by omega)
  have P2 : Hid (∀ W r, St w W sp8 r → Calls Try.prog 99 #[.pointer (some ⟨w.heap.size + 1 + 1, 0, none⟩), .int .i64 27, .int .i64 5, .int .u32 1] W fun e W' => e = .returned (.tuple #[]) ∧ St w W' sp8 (pt27 (1) r)) := Lib.hid fun W r h => st_put27 h (1) (by decide)
  have h0 : St w (((w.alloc (.cells #[.int .u8 8, .string ⟨#[102, 115, 117, 98]⟩, .int .u32 83, .int .i64 (1), .int .i64 (-1), .int .i64 (-1), .int .u8 4] 116)).alloc (.cells #[.int .u8 0, .int .u8 0, .int .u8 0, .int .u8 0, .int .u32 0, .int .u32 0, .int .u8 0, .string ⟨#[]⟩] 119)).alloc (.cells #[.int .u8 8, .int .u8 (f : Nat), .int .u8 0, .int .u8 0, .int .u32 0, .int .u32 0, .int .u8 4, .string ⟨#[]⟩] 119)) sp8 ⟨8, (f : Nat), 0, 0, 0, 0, 4⟩ := st_start w sp8 f
  obtain ⟨a0, a2, a3, a4, a5, a6, d2, d3⟩ := cells_8 h0
  go_enter Try.func87, Try.ntmps87
  go_wp2_with (first
    | (go_at_call 99; (with_reducible refine (P0.out _ _ h0).mono ?_); rintro e w1 ⟨rfl, h1⟩; clear P0; obtain ⟨a0, a2, a3, a4, a5, a6, d2, d3⟩ := cells_8 h1))
  go_quiet (fail)
  go_wp2_with (first
    | (go_at_call 99; (with_reducible refine (P1.out _ _ (h1.drewN _)).mono ?_); rintro e w2 ⟨rfl, h2⟩; clear P1; obtain ⟨a0, a2, a3, a4, a5, a6, d2, d3⟩ := cells_8 h2)
    | (go_at_call 99; (with_reducible refine (P2.out _ _ h2).mono ?_); rintro e w3 ⟨rfl, h3⟩; clear P2; obtain ⟨a0, a2, a3, a4, a5, a6, d2, d3⟩ := cells_8 h3)
    | (refine wpList_load_blk rfl _ _ rfl _ rfl _ _ _ h3.ent Try.underlying119 rfl (by kernel_rfl) ?_)
    | (refine wpList_store_blk rfl _ _ _ rfl _ _ rfl rfl _ _ h3.res (by kernel_rfl) rfl (by simp [Value.oneCell']) ?_))
  exact bodyPost_ret (results_cell rfl _ _ (w.heap.size + 1) _ _ _ rfl (h3.res.row _) Try.underlying119 rfl (by kernel_rfl)) rfl ⟨rfl, below_setRow h3.bel (by omega) _⟩
end Go.Proofs.Yteelconabmfnkaa

/- (table.spec).one at lines of the table. -/
namespace Go.Proofs.Yteelconabmfnkaa
open Go Go.RowKit
set_option maxHeartbeats 4000000
set_option maxRecDepth 100000
set_option linter.unusedVariables false
set_option linter.unusedSimpArgs false
theorem cells_9 {w W : World} {r : R7} (h : St w W sp9 r) : W.cell? ⟨w.heap.size, 0, none⟩ = some (.int .u8 9) ∧ W.cell? ⟨w.heap.size, 2, none⟩ = some (.int .u32 83) ∧ W.cell? ⟨w.heap.size, 3, none⟩ = some (.int .i64 (2)) ∧ W.cell? ⟨w.heap.size, 4, none⟩ = some (.int .i64 (-1)) ∧ W.cell? ⟨w.heap.size, 5, none⟩ = some (.int .i64 (-1)) ∧ W.cell? ⟨w.heap.size, 6, none⟩ = some (.int .u8 4) ∧ W.cell? ⟨w.heap.size + 1 + 1, 2, none⟩ = some (.int .u8 (r.frm : Nat)) ∧ W.cell? ⟨w.heap.size + 1 + 1, 3, none⟩ = some (.int .u8 (r.kind : Nat)) :=
  ⟨h.sp.cell 0, h.sp.cell 2, h.sp.cell 3, h.sp.cell 4, h.sp.cell 5, h.sp.cell 6, h.ent.cell 2, h.ent.cell 3⟩
theorem one_9 (w : World) (f n : Nat) (hf : f < 4) (hn : n < 4) : Calls Try.prog 87 #[.agg (specV sp9), .int .u8 f, .int .i64 n] w (OneP w (ONE sp9 f n)) := by
  show Calls Try.prog 87 #[.agg #[.int .u8 9, .string ⟨#[102, 109, 117, 108]⟩, .int .u32 83, .int .i64 (2), .int .i64 (-1), .int .i64 (-1), .int .u8 4], .int .u8 f, .int .i64 n] w (OneP w (ONE sp9 f n))
  have P0 : Hid (∀ W r, St w W sp9 r → Calls Try.prog 99 #[.pointer (some ⟨w.heap.size + 1 + 1, 0, none⟩), .int .i64 0, .int .i64 7, .int .u32 83] W fun e W' => e = .returned (.tuple #[]) ∧ St w W' sp9 (pt0 (83) r)) := Lib.hid fun W r h => st_put0 h (83) (by decide)
  have P1 : Hid (∀ W r, St w W sp9 r → Calls Try.prog 99 #[.pointer (some ⟨w.heap.size + 1 + 1, 0, none⟩), .int .i64 25, .int .i64 2, .int .u32 (f : Nat)] W fun e W' => e = .returned (.tuple #[]) ∧ St w W' sp9 (pt25 (f) r)) := Lib.hid fun W r h => st_put25 h (f) (by omega)
  have P2 : Hid (∀ W r, St w W sp9 r → Calls Try.prog 99 #[.pointer (some ⟨w.heap.size + 1 + 1, 0, none⟩), .int .i64 27, .int .i64 5, .int .u32 2] W fun e W' => e = .returned (.tuple #[]) ∧ St w W' sp9 (pt27 (2) r)) := Lib.hid fun W r h => st_put27 h (2) (by decide)
  have h0 : St w (((w.alloc (.cells #[.int .u8 9, .string ⟨#[102, 109, 117, 108]⟩, .int .u32 83, .int .i64 (2), .int .i64 (-1), .int .i64 (-1), .int .u8 4] 116)).alloc (.cells #[.int .u8 0, .int .u8 0, .int .u8 0, .int .u8 0, .int .u32 0, .int .u32 0, .int .u8 0, .string ⟨#[]⟩] 119)).alloc (.cells #[.int .u8 9, .int .u8 (f : Nat), .int .u8 0, .int .u8 0, .int .u32 0, .int .u32 0, .int .u8 4, .string ⟨#[]⟩] 119)) sp9 ⟨9, (f : Nat), 0, 0, 0, 0, 4⟩ := st_start w sp9 f
  obtain ⟨a0, a2, a3, a4, a5, a6, d2, d3⟩ := cells_9 h0
  go_enter Try.func87, Try.ntmps87
  go_wp2_with (first
    | (go_at_call 99; (with_reducible refine (P0.out _ _ h0).mono ?_); rintro e w1 ⟨rfl, h1⟩; clear P0; obtain ⟨a0, a2, a3, a4, a5, a6, d2, d3⟩ := cells_9 h1))
  go_quiet (fail)
  go_wp2_with (first
    | (go_at_call 99; (with_reducible refine (P1.out _ _ (h1.drewN _)).mono ?_); rintro e w2 ⟨rfl, h2⟩; clear P1; obtain ⟨a0, a2, a3, a4, a5, a6, d2, d3⟩ := cells_9 h2)
    | (go_at_call 99; (with_reducible refine (P2.out _ _ h2).mono ?_); rintro e w3 ⟨rfl, h3⟩; clear P2; obtain ⟨a0, a2, a3, a4, a5, a6, d2, d3⟩ := cells_9 h3)
    | (refine wpList_load_blk rfl _ _ rfl _ rfl _ _ _ h3.ent Try.underlying119 rfl (by kernel_rfl) ?_)
    | (refine wpList_store_blk rfl _ _ _ rfl _ _ rfl rfl _ _ h3.res (by kernel_rfl) rfl (by simp [Value.oneCell']) ?_))
  exact bodyPost_ret (results_cell rfl _ _ (w.heap.size + 1) _ _ _ rfl (h3.res.row _) Try.underlying119 rfl (by kernel_rfl)) rfl ⟨rfl, below_setRow h3.bel (by omega) _⟩
theorem cells_10 {w W : World} {r : R7} (h : St w W sp10 r) : W.cell? ⟨w.heap.size, 0, none⟩ = some (.int .u8 10) ∧ W.cell? ⟨w.heap.size, 2, none⟩ = some (.int .u32 83) ∧ W.cell? ⟨w.heap.size, 3, none⟩ = some (.int .i64 (3)) ∧ W.cell? ⟨w.heap.size, 4, none⟩ = some (.int .i64 (-1)) ∧ W.cell? ⟨w.heap.size, 5, none⟩ = some (.int .i64 (-1)) ∧ W.cell? ⟨w.heap.size, 6, none⟩ = some (.int .u8 4) ∧ W.cell? ⟨w.heap.size + 1 + 1, 2, none⟩ = some (.int .u8 (r.frm : Nat)) ∧ W.cell? ⟨w.heap.size + 1 + 1, 3, none⟩ = some (.int .u8 (r.kind : Nat)) :=
  ⟨h.sp.cell 0, h.sp.cell 2, h.sp.cell 3, h.sp.cell 4, h.sp.cell 5, h.sp.cell 6, h.ent.cell 2, h.ent.cell 3⟩
theorem one_10 (w : World) (f n : Nat) (hf : f < 4) (hn : n < 4) : Calls Try.prog 87 #[.agg (specV sp10), .int .u8 f, .int .i64 n] w (OneP w (ONE sp10 f n)) := by
  show Calls Try.prog 87 #[.agg #[.int .u8 10, .string ⟨#[102, 100, 105, 118]⟩, .int .u32 83, .int .i64 (3), .int .i64 (-1), .int .i64 (-1), .int .u8 4], .int .u8 f, .int .i64 n] w (OneP w (ONE sp10 f n))
  have P0 : Hid (∀ W r, St w W sp10 r → Calls Try.prog 99 #[.pointer (some ⟨w.heap.size + 1 + 1, 0, none⟩), .int .i64 0, .int .i64 7, .int .u32 83] W fun e W' => e = .returned (.tuple #[]) ∧ St w W' sp10 (pt0 (83) r)) := Lib.hid fun W r h => st_put0 h (83) (by decide)
  have P1 : Hid (∀ W r, St w W sp10 r → Calls Try.prog 99 #[.pointer (some ⟨w.heap.size + 1 + 1, 0, none⟩), .int .i64 25, .int .i64 2, .int .u32 (f : Nat)] W fun e W' => e = .returned (.tuple #[]) ∧ St w W' sp10 (pt25 (f) r)) := Lib.hid fun W r h => st_put25 h (f) (by omega)
  have P2 : Hid (∀ W r, St w W sp10 r → Calls Try.prog 99 #[.pointer (some ⟨w.heap.size + 1 + 1, 0, none⟩), .int .i64 27, .int .i64 5, .int .u32 3] W fun e W' => e = .returned (.tuple #[]) ∧ St w W' sp10 (pt27 (3) r)) := Lib.hid fun W r h => st_put27 h (3) (by decide)
  have h0 : St w (((w.alloc (.cells #[.int .u8 10, .string ⟨#[102, 100, 105, 118]⟩, .int .u32 83, .int .i64 (3), .int .i64 (-1), .int .i64 (-1), .int .u8 4] 116)).alloc (.cells #[.int .u8 0, .int .u8 0, .int .u8 0, .int .u8 0, .int .u32 0, .int .u32 0, .int .u8 0, .string ⟨#[]⟩] 119)).alloc (.cells #[.int .u8 10, .int .u8 (f : Nat), .int .u8 0, .int .u8 0, .int .u32 0, .int .u32 0, .int .u8 4, .string ⟨#[]⟩] 119)) sp10 ⟨10, (f : Nat), 0, 0, 0, 0, 4⟩ := st_start w sp10 f
  obtain ⟨a0, a2, a3, a4, a5, a6, d2, d3⟩ := cells_10 h0
  go_enter Try.func87, Try.ntmps87
  go_wp2_with (first
    | (go_at_call 99; (with_reducible refine (P0.out _ _ h0).mono ?_); rintro e w1 ⟨rfl, h1⟩; clear P0; obtain ⟨a0, a2, a3, a4, a5, a6, d2, d3⟩ := cells_10 h1))
  go_quiet (fail)
  go_wp2_with (first
    | (go_at_call 99; (with_reducible refine (P1.out _ _ (h1.drewN _)).mono ?_); rintro e w2 ⟨rfl, h2⟩; clear P1; obtain ⟨a0, a2, a3, a4, a5, a6, d2, d3⟩ := cells_10 h2)
    | (go_at_call 99; (with_reducible refine (P2.out _ _ h2).mono ?_); rintro e w3 ⟨rfl, h3⟩; clear P2; obtain ⟨a0, a2, a3, a4, a5, a6, d2, d3⟩ := cells_10 h3)
    | (refine wpList_load_blk rfl _ _ rfl _ rfl _ _ _ h3.ent Try.underlying119 rfl (by kernel_rfl) ?_)
    | (refine wpList_store_blk rfl _ _ _ rfl _ _ rfl rfl _ _ h3.res (by kernel_rfl) rfl (by simp [Value.oneCell']) ?_))
  exact bodyPost_ret (results_cell rfl _ _ (w.heap.size + 1) _ _ _ rfl (h3.res.row _) Try.underlying119 rfl (by kernel_rfl)) rfl ⟨rfl, below_setRow h3.bel (by omega) _⟩
theorem cells_11 {w W : World} {r : R7} (h : St w W sp11 r) : W.cell? ⟨w.heap.size, 0, none⟩ = some (.int .u8 11) ∧ W.cell? ⟨w.heap.size, 2, none⟩ = some (.int .u32 83) ∧ W.cell? ⟨w.heap.size, 3, none⟩ = some (.int .i64 (11)) ∧ W.cell? ⟨w.heap.size, 4, none⟩ = some (.int .i64 (-1)) ∧ W.cell? ⟨w.heap.size, 5, none⟩ = some (.int .i64 (0)) ∧ W.cell? ⟨w.heap.size, 6, none⟩ = some (.int .u8 6) ∧ W.cell? ⟨w.heap.size + 1 + 1, 2, none⟩ = some (.int .u8 (r.frm : Nat)) ∧ W.cell? ⟨w.heap.size + 1 + 1, 3, none⟩ = some (.int .u8 (r.kind : Nat)) :=
  ⟨h.sp.cell 0, h.sp.cell 2, h.sp.cell 3, h.sp.cell 4, h.sp.cell 5, h.sp.cell 6, h.ent.cell 2, h.ent.cell 3⟩
theorem one_11 (w : World) (f n : Nat) (hf : f < 4) (hn : n < 4) : Calls Try.prog 87 #[.agg (specV sp11), .int .u8 f, .int .i64 n] w (OneP w (ONE sp11 f n)) := by
  show Calls Try.prog 87 #[.agg #[.int .u8 11, .string ⟨#[102, 115, 113, 114, 116]⟩, .int .u32 83, .int .i64 (11), .int .i64 (-1), .int .i64 (0), .int .u8 6], .int .u8 f, .int .i64 n] w (OneP w (ONE sp11 f n))
  have P0 : Hid (∀ W r, St w W sp11 r → Calls Try.prog 99 #[.pointer (some ⟨w.heap.size + 1 + 1, 0, none⟩), .int .i64 0, .int .i64 7, .int .u32 83] W fun e W' => e = .returned (.tuple #[]) ∧ St w W' sp11 (pt0 (83) r)) := Lib.hid fun W r h => st_put0 h (83) (by decide)
  have P1 : Hid (∀ W r, St w W sp11 r → Calls Try.prog 99 #[.pointer (some ⟨w.heap.size + 1 + 1, 0, none⟩), .int .i64 25, .int .i64 2, .int .u32 (f : Nat)] W fun e W' => e = .returned (.tuple #[]) ∧ St w W' sp11 (pt25 (f) r)) := Lib.hid fun W r h => st_put25 h (f) (by omega)
  have P2 : Hid (∀ W r, St w W sp11 r → Calls Try.prog 99 #[.pointer (some ⟨w.heap.size + 1 + 1, 0, none⟩), .int .i64 27, .int .i64 5, .int .u32 11] W fun e W' => e = .returned (.tuple #[]) ∧ St w W' sp11 (pt27 (11) r)) := Lib.hid fun W r h => st_put27 h (11) (by decide)
  have P3 : Hid (∀ W r, St w W sp11 r → Calls Try.prog 99 #[.pointer (some ⟨w.heap.size + 1 + 1, 0, none⟩), .int .i64 20, .int .i64 5, .int .u32 0] W fun e W' => e = .returned (.tuple #[]) ∧ St w W' sp11 (pt20 (0) r)) := Lib.hid fun W r h => st_put20 h (0) (by decide)
  have h0 : St w (((w.alloc (.cells #[.int .u8 11, .string ⟨#[102, 115, 113, 114, 116]⟩, .int .u32 83, .int .i64 (11), .int .i64 (-1), .int .i64 (0), .int .u8 6] 116)).alloc (.cells #[.int .u8 0, .int .u8 0, .int .u8 0, .int .u8 0, .int .u32 0, .int .u32 0, .int .u8 0, .string ⟨#[]⟩] 119)).alloc (.cells #[.int .u8 11, .int .u8 (f : Nat), .int .u8 0, .int .u8 0, .int .u32 0, .int .u32 0, .int .u8 6, .string ⟨#[]⟩] 119)) sp11 ⟨11, (f : Nat), 0, 0, 0, 0, 6⟩ := st_start w sp11 f
  obtain ⟨a0, a2, a3, a4, a5, a6, d2, d3⟩ := cells_11 h0
  go_enter Try.func87, Try.ntmps87
  go_wp2_with (first
    | (go_at_call 99; (with_reducible refine (P0.out _ _ h0).mono ?_); rintro e w1 ⟨rfl, h1⟩; clear P0; obtain ⟨a0, a2, a3, a4, a5, a6, d2, d3⟩ := cells_11 h1))
  go_quiet (fail)
  go_wp2_with (first
    | (go_at_call 99; (with_reducible refine (P1.out _ _ (h1.drewN _)).mono ?_); rintro e w2 ⟨rfl, h2⟩; clear P1; obtain ⟨a0, a2, a3, a4, a5, a6, d2, d3⟩ := cells_11 h2)
    | (go_at_call 99; (with_reducible refine (P2.out _ _ h2).mono ?_); rintro e w3 ⟨rfl, h3⟩; clear P2; obtain ⟨a0, a2, a3, a4, a5, a6, d2, d3⟩ := cells_11 h3)
    | (go_at_call 99; (with_reducible refine (P3.out _ _ h3).mono ?_); rintro e w4 ⟨rfl, h4⟩; clear P3; obtain ⟨a0, a2, a3, a4, a5, a6, d2, d3⟩ := cells_11 h4)
    | (refine wpList_load_blk rfl _ _ rfl _ rfl _ _ _ h4.ent Try.underlying119 rfl (by kernel_rfl) ?_)
    | (refine wpList_store_blk rfl _ _ _ rfl _ _ rfl rfl _ _ h4.res (by kernel_rfl) rfl (by simp [Value.oneCell']) ?_))
  exact bodyPost_ret (results_cell rfl _ _ (w.heap.size + 1) _ _ _ rfl (h4.res.row _) Try.underlying119 rfl (by kernel_rfl)) rfl ⟨rfl, below_setRow h4.bel (by omega) _⟩
theorem cells_12 {w W : World} {r : R7} (h : St w W sp12 r) : W.cell? ⟨w.heap.size, 0, none⟩ = some (.int .u8 12) ∧ W.cell? ⟨w.heap.size, 2, none⟩ = some (.int .u32 83) ∧ W.cell? ⟨w.heap.size, 3, none⟩ = some (.int .i64 (4)) ∧ W.cell? ⟨w.heap.size, 4, none⟩ = some (.int .i64 (0)) ∧ W.cell? ⟨w.heap.size, 5, none⟩ = some (.int .i64 (-1)) ∧ W.cell? ⟨w.heap.size, 6, none⟩ = some (.int .u8 5) ∧ W.cell? ⟨w.heap.size + 1 + 1, 2, none⟩ = some (.int .u8 (r.frm : Nat)) ∧ W.cell? ⟨w.heap.size + 1 + 1, 3, none⟩ = some (.int .u8 (r.kind : Nat)) :=
  ⟨h.sp.cell 0, h.sp.cell 2, h.sp.cell 3, h.sp.cell 4, h.sp.cell 5, h.sp.cell 6, h.ent.cell 2, h.ent.cell 3⟩
theorem one_12 (w : World) (f n : Nat) (hf : f < 4) (hn : n < 4) : Calls Try.prog 87 #[.agg (specV sp12), .int .u8 f, .int .i64 n] w (OneP w (ONE sp12 f n)) := by
  show Calls Try.prog 87 #[.agg #[.int .u8 12, .string ⟨#[102, 115, 103, 110, 106]⟩, .int .u32 83, .int .i64 (4), .int .i64 (0), .int .i64 (-1), .int .u8 5], .int .u8 f, .int .i64 n] w (OneP w (ONE sp12 f n))
  have P0 : Hid (∀ W r, St w W sp12 r → Calls Try.prog 99 #[.pointer (some ⟨w.heap.size + 1 + 1, 0, none⟩), .int .i64 0, .int .i64 7, .int .u32 83] W fun e W' => e = .returned (.tuple #[]) ∧ St w W' sp12 (pt0 (83) r)) := Lib.hid fun W r h => st_put0 h (83) (by decide)
  have P1 : Hid (∀ W r, St w W sp12 r → Calls Try.prog 99 #[.pointer (some ⟨w.heap.size + 1 + 1, 0, none⟩), .int .i64 25, .int .i64 2, .int .u32 (f : Nat)] W fun e W' => e = .returned (.tuple #[]) ∧ St w W' sp12 (pt25 (f) r)) := Lib.hid fun W r h => st_put25 h (f) (by omega)
  have P2 : Hid (∀ W r, St w W sp12 r → Calls Try.prog 99 #[.pointer (some ⟨w.heap.size + 1 + 1, 0, none⟩), .int .i64 27, .int .i64 5, .int .u32 4] W fun e W' => e = .returned (.tuple #[]) ∧ St w W' sp12 (pt27 (4) r)) := Lib.hid fun W r h => st_put27 h (4) (by decide)
  have P3 : Hid (∀ W r, St w W sp12 r → Calls Try.prog 99 #[.pointer (some ⟨w.heap.size + 1 + 1, 0, none⟩), .int .i64 12, .int .i64 3, .int .u32 0] W fun e W' => e = .returned (.tuple #[]) ∧ St w W' sp12 (pt12 (0) r)) := Lib.hid fun W r h => st_put12 h (0) (by decide)
  have h0 : St w (((w.alloc (.cells #[.int .u8 12, .string ⟨#[102, 115, 103, 110, 106]⟩, .int .u32 83, .int .i64 (4), .int .i64 (0), .int .i64 (-1), .int .u8 5] 116)).alloc (.cells #[.int .u8 0, .int .u8 0, .int .u8 0, .int .u8 0, .int .u32 0, .int .u32 0, .int .u8 0, .string ⟨#[]⟩] 119)).alloc (.cells #[.int .u8 12, .int .u8 (f : Nat), .int .u8 0, .int .u8 0, .int .u32 0, .int .u32 0, .int .u8 5, .string ⟨#[]⟩] 119)) sp12 ⟨12, (f : Nat), 0, 0, 0, 0, 5⟩ := st_start w sp12 f
  obtain ⟨a0, a2, a3, a4, a5, a6, d2, d3⟩ := cells_12 h0
  go_enter Try.func87, Try.ntmps87
  go_wp2_with (first
    | (go_at_call 99; (with_reducible refine (P0.out _ _ h0).mono ?_); rintro e w1 ⟨rfl, h1⟩; clear P0; obtain ⟨a0, a2, a3, a4, a5, a6, d2, d3⟩ := cells_12 h1))
  go_quiet (fail)
  go_wp2_with (first
    | (go_at_call 99; (with_reducible refine (P1.out _ _ (h1.drewN _)).mono ?_); rintro e w2 ⟨rfl, h2⟩; clear P1; obtain ⟨a0, a2, a3, a4, a5, a6, d2, d3⟩ := cells_12 h2)
    | (go_at_call 99; (with_reducible refine (P2.out _ _ h2).mono ?_); rintro e w3 ⟨rfl, h3⟩; clear P2; obtain ⟨a0, a2, a3, a4, a5, a6, d2, d3⟩ := cells_12 h3)
    | (go_at_call 99; (with_reducible refine (P3.out _ _ h3).mono ?_); rintro e w4 ⟨rfl, h4⟩; clear P3; obtain ⟨a0, a2, a3, a4, a5, a6, d2, d3⟩ := cells_12 h4)
    | (refine wpList_load_blk rfl _ _ rfl _ rfl _ _ _ h4.ent Try.underlying119 rfl (by kernel_rfl) ?_)
    | (refine wpList_store_blk rfl _ _ _ rfl _ _ rfl rfl _ _ h4.res (by kernel_rfl) rfl (by simp [Value.oneCell']) ?_))
  exact bodyPost_ret (results_cell rfl _ _ (w.heap.size + 1) _ _ _ rfl (h4.res.row _) Try.underlying119 rfl (by kernel_rfl)) rfl ⟨rfl, below_setRow h4.bel (by omega) _⟩
theorem cells_13 {w W : World} {r : R7} (h : St w W sp13 r) : W.cell? ⟨w.heap.size, 0, none⟩ = some (.int .u8 13) ∧ W.cell? ⟨w.heap.size, 2, none⟩ = some (.int .u32 83) ∧ W.cell? ⟨w.heap.size, 3, none⟩ = some (.int .i64 (4)) ∧ W.cell? ⟨w.heap.size, 4, none⟩ = some (.int .i64 (1)) ∧ W.cell? ⟨w.heap.size, 5, none⟩ = some (.int .i64 (-1)) ∧ W.cell? ⟨w.heap.size, 6, none⟩ = some (.int .u8 5) ∧ W.cell? ⟨w.heap.size + 1 + 1, 2, none⟩ = some (.int .u8 (r.frm : Nat)) ∧ W.cell? ⟨w.heap.size + 1 + 1, 3, none⟩ = some (.int .u8 (r.kind : Nat)) :=
  ⟨h.sp.cell 0, h.sp.cell 2, h.sp.cell 3, h.sp.cell 4, h.sp.cell 5, h.sp.cell 6, h.ent.cell 2, h.ent.cell 3⟩
theorem one_13 (w : World) (f n : Nat) (hf : f < 4) (hn : n < 4) : Calls Try.prog 87 #[.agg (specV sp13), .int .u8 f, .int .i64 n] w (OneP w (ONE sp13 f n)) := by
  show Calls Try.prog 87 #[.agg #[.int .u8 13, .string ⟨#[102, 115, 103, 110, 106, 110]⟩, .int .u32 83, .int .i64 (4), .int .i64 (1), .int .i64 (-1), .int .u8 5], .int .u8 f, .int .i64 n] w (OneP w (ONE sp13 f n))
  have P0 : Hid (∀ W r, St w W sp13 r → Calls Try.prog 99 #[.pointer (some ⟨w.heap.size + 1 + 1, 0, none⟩), .int .i64 0, .int .i64 7, .int .u32 83] W fun e W' => e = .returned (.tuple #[]) ∧ St w W' sp13 (pt0 (83) r)) := Lib.hid fun W r h => st_put0 h (83) (by decide)
  have P1 : Hid (∀ W r, St w W sp13 r → Calls Try.prog 99 #[.pointer (some ⟨w.heap.size + 1 + 1, 0, none⟩), .int .i64 25, .int .i64 2, .int .u32 (f : Nat)] W fun e W' => e = .returned (.tuple #[]) ∧ St w W' sp13 (pt25 (f) r)) := Lib.hid fun W r h => st_put25 h (f) (by omega)
  have P2 : Hid (∀ W r, St w W sp13 r → Calls Try.prog 99 #[.pointer (some ⟨w.heap.size + 1 + 1, 0, none⟩), .int .i64 27, .int .i64 5, .int .u32 4] W fun e W' => e = .returned (.tuple #[]) ∧ St w W' sp13 (pt27 (4) r)) := Lib.hid fun W r h => st_put27 h (4) (by decide)
  have P3 : Hid (∀ W r, St w W sp13 r → Calls Try.prog 99 #[.pointer (some ⟨w.heap.size + 1 + 1, 0, none⟩), .int .i64 12, .int .i64 3, .int .u32 1] W fun e W' => e = .returned (.tuple #[]) ∧ St w W' sp13 (pt12 (1) r)) := Lib.hid fun W r h => st_put12 h (1) (by decide)
  have h0 : St w (((w.alloc (.cells #[.int .u8 13, .string ⟨#[102, 115, 103, 110, 106, 110]⟩, .int .u32 83, .int .i64 (4), .int .i64 (1), .int .i64 (-1), .int .u8 5] 116)).alloc (.cells #[.int .u8 0, .int .u8 0, .int .u8 0, .int .u8 0, .int .u32 0, .int .u32 0, .int .u8 0, .string ⟨#[]⟩] 119)).alloc (.cells #[.int .u8 13, .int .u8 (f : Nat), .int .u8 0, .int .u8 0, .int .u32 0, .int .u32 0, .int .u8 5, .string ⟨#[]⟩] 119)) sp13 ⟨13, (f : Nat), 0, 0, 0, 0, 5⟩ := st_start w sp13 f
  obtain ⟨a0, a2, a3, a4, a5, a6, d2, d3⟩ := cells_13 h0
  go_enter Try.func87, Try.ntmps87
  go_wp2_with (first
    | (go_at_call 99; (with_reducible refine (P0.out _ _ h0).mono ?_); rintro e w1 ⟨rfl, h1⟩; clear P0; obtain ⟨a0, a2, a3, a4, a5, a6, d2, d3⟩ := cells_13 h1))
  go_quiet (fail)
  go_wp2_with (first
    | (go_at_call 99; (with_reducible refine (P1.out _ _ (h1.drewN _)).mono ?_); rintro e w2 ⟨rfl, h2⟩; clear P1; obtain ⟨a0, a2, a3, a4, a5, a6, d2, d3⟩ := cells_13 h2)
    | (go_at_call 99; (with_reducible refine (P2.out _ _ h2).mono ?_); rintro e w3 ⟨rfl, h3⟩; clear P2; obtain ⟨a0, a2, a3, a4, a5, a6, d2, d3⟩ := cells_13 h3)
    | (go_at_call 99; (with_reducible refine (P3.out _ _ h3).mono ?_); rintro e w4 ⟨rfl, h4⟩; clear P3; obtain ⟨a0, a2, a3, a4, a5, a6, d2, d3⟩ := cells_13 h4)
    | (refine wpList_load_blk rfl _ _ rfl _ rfl _ _ _ h4.ent Try.underlying119 rfl (by kernel_rfl) ?_)
    | (refine wpList_store_blk rfl _ _ _ rfl _ _ rfl rfl _ _ h4.res (by kernel_rfl) rfl (by simp [Value.oneCell']) ?_))
  exact bodyPost_ret (results_cell rfl _ _ (w.heap.size + 1) _ _ _ rfl (h4.res.row _) Try.underlying119 rfl (by kernel_rfl)) rfl ⟨rfl, below_setRow h4.bel (by omega) _⟩
theorem cells_14 {w W : World} {r : R7} (h : St w W sp14 r) : W.cell? ⟨w.heap.size, 0, none⟩ = some (.int .u8 14) ∧ W.cell? ⟨w.heap.size, 2, none⟩ = some (.int .u32 83) ∧ W.cell? ⟨w.heap.size, 3, none⟩ = some (.int .i64 (4)) ∧ W.cell? ⟨w.heap.size, 4, none⟩ = some (.int .i64 (2)) ∧ W.cell? ⟨w.heap.size, 5, none⟩ = some (.int .i64 (-1)) ∧ W.cell? ⟨w.heap.size, 6, none⟩ = some (.int .u8 5) ∧ W.cell? ⟨w.heap.size + 1 + 1, 2, none⟩ = some (.int .u8 (r.frm : Nat)) ∧ W.cell? ⟨w.heap.size + 1 + 1, 3, none⟩ = some (.int .u8 (r.kind : Nat)) :=
  ⟨h.sp.cell 0, h.sp.cell 2, h.sp.cell 3, h.sp.cell 4, h.sp.cell 5, h.sp.cell 6, h.ent.cell 2, h.ent.cell 3⟩
theorem one_14 (w : World) (f n : Nat) (hf : f < 4) (hn : n < 4) : Calls Try.prog 87 #[.agg (specV sp14), .int .u8 f, .int .i64 n] w (OneP w (ONE sp14 f n)) := by
  show Calls Try.prog 87 #[.agg #[.int .u8 14, .string ⟨#[102, 115, 103, 110, 106, 120]⟩, .int .u32 83, .int .i64 (4), .int .i64 (2), .int .i64 (-1), .int .u8 5], .int .u8 f, .int .i64 n] w (OneP w (ONE sp14 f n))
  have P0 : Hid (∀ W r, St w W sp14 r → Calls Try.prog 99 #[.pointer (some ⟨w.heap.size + 1 + 1, 0, none⟩), .int .i64 0, .int .i64 7, .int .u32 83] W fun e W' => e = .returned (.tuple #[]) ∧ St w W' sp14 (pt0 (83) r)) := Lib.hid fun W r h => st_put0 h (83) (by decide)
  have P1 : Hid (∀ W r, St w W sp14 r → Calls Try.prog 99 #[.pointer (some ⟨w.heap.size + 1 + 1, 0, none⟩), .int .i64 25, .int .i64 2, .int .u32 (f : Nat)] W fun e W' => e = .returned (.tuple #[]) ∧ St w W' sp14 (pt25 (f) r)) := Lib.hid fun W r h => st_put25 h (f) (by omega)
  have P2 : Hid (∀ W r, St w W sp14 r → Calls Try.prog 99 #[.pointer (some ⟨w.heap.size + 1 + 1, 0, none⟩), .int .i64 27, .int .i64 5, .int .u32 4] W fun e W' => e = .returned (.tuple #[]) ∧ St w W' sp14 (pt27 (4) r)) := Lib.hid fun W r h => st_put27 h (4) (by decide)
  have P3 : Hid (∀ W r, St w W sp14 r → Calls Try.prog 99 #[.pointer (some ⟨w.heap.size + 1 + 1, 0, none⟩), .int .i64 12, .int .i64 3, .int .u32 2] W fun e W' => e = .returned (.tuple #[]) ∧ St w W' sp14 (pt12 (2) r)) := Lib.hid fun W r h => st_put12 h (2) (by decide)
  have h0 : St w (((w.alloc (.cells #[.int .u8 14, .string ⟨#[102, 115, 103, 110, 106, 120]⟩, .int .u32 83, .int .i64 (4), .int .i64 (2), .int .i64 (-1), .int .u8 5] 116)).alloc (.cells #[.int .u8 0, .int .u8 0, .int .u8 0, .int .u8 0, .int .u32 0, .int .u32 0, .int .u8 0, .string ⟨#[]⟩] 119)).alloc (.cells #[.int .u8 14, .int .u8 (f : Nat), .int .u8 0, .int .u8 0, .int .u32 0, .int .u32 0, .int .u8 5, .string ⟨#[]⟩] 119)) sp14 ⟨14, (f : Nat), 0, 0, 0, 0, 5⟩ := st_start w sp14 f
  obtain ⟨a0, a2, a3, a4, a5, a6, d2, d3⟩ := cells_14 h0
  go_enter Try.func87, Try.ntmps87
  go_wp2_with (first
    | (go_at_call 99; (with_reducible refine (P0.out _ _ h0).mono ?_); rintro e w1 ⟨rfl, h1⟩; clear P0; obtain ⟨a0, a2, a3, a4, a5, a6, d2, d3⟩ := cells_14 h1))
  go_quiet (fail)
  go_wp2_with (first
    | (go_at_call 99; (with_reducible refine (P1.out _ _ (h1.drewN _)).mono ?_); rintro e w2 ⟨rfl, h2⟩; clear P1; obtain ⟨a0, a2, a3, a4, a5, a6, d2, d3⟩ := cells_14 h2)
    | (go_at_call 99; (with_reducible refine (P2.out _ _ h2).mono ?_); rintro e w3 ⟨rfl, h3⟩; clear P2; obtain ⟨a0, a2, a3, a4, a5, a6, d2, d3⟩ := cells_14 h3)
    | (go_at_call 99; (with_reducible refine (P3.out _ _ h3).mono ?_); rintro e w4 ⟨rfl, h4⟩; clear P3; obtain ⟨a0, a2, a3, a4, a5, a6, d2, d3⟩ := cells_14 h4)
    | (refine wpList_load_blk rfl _ _ rfl _ rfl _ _ _ h4.ent Try.underlying119 rfl (by kernel_rfl) ?_)
    | (refine wpList_store_blk rfl _ _ _ rfl _ _ rfl rfl _ _ h4.res (by kernel_rfl) rfl (by simp [Value.oneCell']) ?_))
  exact bodyPost_ret (results_cell rfl _ _ (w.heap.size + 1) _ _ _ rfl (h4.res.row _) Try.underlying119 rfl (by kernel_rfl)) rfl ⟨rfl, below_setRow h4.bel (by omega) _⟩
theorem cells_15 {w W : World} {r : R7} (h : St w W sp15 r) : W.cell? ⟨w.heap.size, 0, none⟩ = some (.int .u8 15) ∧ W.cell? ⟨w.heap.size, 2, none⟩ = some (.int .u32 83) ∧ W.cell? ⟨w.heap.size, 3, none⟩ = some (.int .i64 (5)) ∧ W.cell? ⟨w.heap.size, 4, none⟩ = some (.int .i64 (0)) ∧ W.cell? ⟨w.heap.size, 5, none⟩ = some (.int .i64 (-1)) ∧ W.cell? ⟨w.heap.size, 6, none⟩ = some (.int .u8 5) ∧ W.cell? ⟨w.heap.size + 1 + 1, 2, none⟩ = some (.int .u8 (r.frm : Nat)) ∧ W.cell? ⟨w.heap.size + 1 + 1, 3, none⟩ = some (.int .u8 (r.kind : Nat)) :=
  ⟨h.sp.cell 0, h.sp.cell 2, h.sp.cell 3, h.sp.cell 4, h.sp.cell 5, h.sp.cell 6, h.ent.cell 2, h.ent.cell 3⟩
theorem one_15 (w : World) (f n : Nat) (hf : f < 4) (hn : n < 4) : Calls Try.prog 87 #[.agg (specV sp15), .int .u8 f, .int .i64 n] w (OneP w (ONE sp15 f n)) := by
  show Calls Try.prog 87 #[.agg #[.int .u8 15, .string ⟨#[102, 109, 105, 110]⟩, .int .u32 83, .int .i64 (5), .int .i64 (0), .int .i64 (-1), .int .u8 5], .int .u8 f, .int .i64 n] w (OneP w (ONE sp15 f n))
  have P0 : Hid (∀ W r, St w W sp15 r → Calls Try.prog 99 #[.pointer (some ⟨w.heap.size + 1 + 1, 0, none⟩), .int .i64 0, .int .i64 7, .int .u32 83] W fun e W' => e = .returned (.tuple #[]) ∧ St w W' sp15 (pt0 (83) r)) := Lib.hid fun W r h => st_put0 h (83) (by decide)
  have P1 : Hid (∀ W r, St w W sp15 r → Calls Try.prog 99 #[.pointer (some ⟨w.heap.size + 1 + 1, 0, none⟩), .int .i64 25, .int .i64 2, .int .u32 (f : Nat)] W fun e W' => e = .returned (.tuple #[]) ∧ St w W' sp15 (pt25 (f) r)) := Lib.hid fun W r h => st_put25 h (f) (by omega)
  have P2 : Hid (∀ W r, St w W sp15 r → Calls Try.prog 99 #[.pointer (some ⟨w.heap.size + 1 + 1, 0, none⟩), .int .i64 27, .int .i64 5, .int .u32 5] W fun e W' => e = .returned (.tuple #[]) ∧ St w W' sp15 (pt27 (5) r)) := Lib.hid fun W r h => st_put27 h (5) (by decide)
  have P3 : Hid (∀ W r, St w W sp15 r → Calls Try.prog 99 #[.pointer (some ⟨w.heap.size + 1 + 1, 0, none⟩), .int .i64 12, .int .i64 3, .int .u32 0] W fun e W' => e = .returned (.tuple #[]) ∧ St w W' sp15 (pt12 (0) r)) := Lib.hid fun W r h => st_put12 h (0) (by decide)
  have h0 : St w (((w.alloc (.cells #[.int .u8 15, .string ⟨#[102, 109, 105, 110]⟩, .int .u32 83, .int .i64 (5), .int .i64 (0), .int .i64 (-1), .int .u8 5] 116)).alloc (.cells #[.int .u8 0, .int .u8 0, .int .u8 0, .int .u8 0, .int .u32 0, .int .u32 0, .int .u8 0, .string ⟨#[]⟩] 119)).alloc (.cells #[.int .u8 15, .int .u8 (f : Nat), .int .u8 0, .int .u8 0, .int .u32 0, .int .u32 0, .int .u8 5, .string ⟨#[]⟩] 119)) sp15 ⟨15, (f : Nat), 0, 0, 0, 0, 5⟩ := st_start w sp15 f
  obtain ⟨a0, a2, a3, a4, a5, a6, d2, d3⟩ := cells_15 h0
  go_enter Try.func87, Try.ntmps87
  go_wp2_with (first
    | (go_at_call 99; (with_reducible refine (P0.out _ _ h0).mono ?_); rintro e w1 ⟨rfl, h1⟩; clear P0; obtain ⟨a0, a2, a3, a4, a5, a6, d2, d3⟩ := cells_15 h1))
  go_quiet (fail)
  go_wp2_with (first
    | (go_at_call 99; (with_reducible refine (P1.out _ _ (h1.drewN _)).mono ?_); rintro e w2 ⟨rfl, h2⟩; clear P1; obtain ⟨a0, a2, a3, a4, a5, a6, d2, d3⟩ := cells_15 h2)
    | (go_at_call 99; (with_reducible refine (P2.out _ _ h2).mono ?_); rintro e w3 ⟨rfl, h3⟩; clear P2; obtain ⟨a0, a2, a3, a4, a5, a6, d2, d3⟩ := cells_15 h3)
    | (go_at_call 99; (with_reducible refine (P3.out _ _ h3).mono ?_); rintro e w4 ⟨rfl, h4⟩; clear P3; obtain ⟨a0, a2, a3, a4, a5, a6, d2, d3⟩ := cells_15 h4)
    | (refine wpList_load_blk rfl _ _ rfl _ rfl _ _ _ h4.ent Try.underlying119 rfl (by kernel_rfl) ?_)
    | (refine wpList_store_blk rfl _ _ _ rfl _ _ rfl rfl _ _ h4.res (by kernel_rfl) rfl (by simp [Value.oneCell']) ?_))
  exact bodyPost_ret (results_cell rfl _ _ (w.heap.size + 1) _ _ _ rfl (h4.res.row _) Try.underlying119 rfl (by kernel_rfl)) rfl ⟨rfl, below_setRow h4.bel (by omega) _⟩
theorem cells_16 {w W : World} {r : R7} (h : St w W sp16 r) : W.cell? ⟨w.heap.size, 0, none⟩ = some (.int .u8 16) ∧ W.cell? ⟨w.heap.size, 2, none⟩ = some (.int .u32 83) ∧ W.cell? ⟨w.heap.size, 3, none⟩ = some (.int .i64 (5)) ∧ W.cell? ⟨w.heap.size, 4, none⟩ = some (.int .i64 (1)) ∧ W.cell? ⟨w.heap.size, 5, none⟩ = some (.int .i64 (-1)) ∧ W.cell? ⟨w.heap.size, 6, none⟩ = some (.int .u8 5) ∧ W.cell? ⟨w.heap.size + 1 + 1, 2, none⟩ = some (.int .u8 (r.frm : Nat)) ∧ W.cell? ⟨w.heap.size + 1 + 1, 3, none⟩ = some (.int .u8 (r.kind : Nat)) :=
  ⟨h.sp.cell 0, h.sp.cell 2, h.sp.cell 3, h.sp.cell 4, h.sp.cell 5, h.sp.cell 6, h.ent.cell 2, h.ent.cell 3⟩
theorem one_16 (w : World) (f n : Nat) (hf : f < 4) (hn : n < 4) : Calls Try.prog 87 #[.agg (specV sp16), .int .u8 f, .int .i64 n] w (OneP w (ONE sp16 f n)) := by
  show Calls Try.prog 87 #[.agg #[.int .u8 16, .string ⟨#[102, 109, 97, 120]⟩, .int .u32 83, .int .i64 (5), .int .i64 (1), .int .i64 (-1), .int .u8 5], .int .u8 f, .int .i64 n] w (OneP w (ONE sp16 f n))
  have P0 : Hid (∀ W r, St w W sp16 r → Calls Try.prog 99 #[.pointer (some ⟨w.heap.size + 1 + 1, 0, none⟩), .int .i64 0, .int .i64 7, .int .u32 83] W fun e W' => e = .returned (.tuple #[]) ∧ St w W' sp16 (pt0 (83) r)) := Lib.hid fun W r h => st_put0 h (83) (by decide)
  have P1 : Hid (∀ W r, St w W sp16 r → Calls Try.prog 99 #[.pointer (some ⟨w.heap.size + 1 + 1, 0, none⟩), .int .i64 25, .int .i64 2, .int .u32 (f : Nat)] W fun e W' => e = .returned (.tuple #[]) ∧ St w W' sp16 (pt25 (f) r)) := Lib.hid fun W r h => st_put25 h (f) (by omega)
  have P2 : Hid (∀ W r, St w W sp16 r → Calls Try.prog 99 #[.pointer (some ⟨w.heap.size + 1 + 1, 0, none⟩), .int .i64 27, .int .i64 5, .int .u32 5] W fun e W' => e = .returned (.tuple #[]) ∧ St w W' sp16 (pt27 (5) r)) := Lib.hid fun W r h => st_put27 h (5) (by decide)
  have P3 : Hid (∀ W r, St w W sp16 r → Calls Try.prog 99 #[.pointer (some ⟨w.heap.size + 1 + 1, 0, none⟩), .int .i64 12, .int .i64 3, .int .u32 1] W fun e W' => e = .returned (.tuple #[]) ∧ St w W' sp16 (pt12 (1) r)) := Lib.hid fun W r h => st_put12 h (1) (by decide)
  have h0 : St w (((w.alloc (.cells #[.int .u8 16, .string ⟨#[102, 109, 97, 120]⟩, .int .u32 83, .int .i64 (5), .int .i64 (1), .int .i64 (-1), .int .u8 5] 116)).alloc (.cells #[.int .u8 0, .int .u8 0, .int .u8 0, .int .u8 0, .int .u32 0, .int .u32 0, .int .u8 0, .string ⟨#[]⟩] 119)).alloc (.cells #[.int .u8 16, .int .u8 (f : Nat), .int .u8 0, .int .u8 0, .int .u32 0, .int .u32 0, .int .u8 5, .string ⟨#[]⟩] 119)) sp16 ⟨16, (f : Nat), 0, 0, 0, 0, 5⟩ := st_start w sp16 f
  obtain ⟨a0, a2, a3, a4, a5, a6, d2, d3⟩ := cells_16 h0
  go_enter Try.func87, Try.ntmps87
  go_wp2_with (first
    | (go_at_call 99; (with_reducible refine (P0.out _ _ h0).mono ?_); rintro e w1 ⟨rfl, h1⟩; clear P0; obtain ⟨a0, a2, a3, a4, a5, a6, d2, d3⟩ := cells_16 h1))
  go_quiet (fail)
  go_wp2_with (first
    | (go_at_call 99; (with_reducible refine (P1.out _ _ (h1.drewN _)).mono ?_); rintro e w2 ⟨rfl, h2⟩; clear P1; obtain ⟨a0, a2, a3, a4, a5, a6, d2, d3⟩ := cells_16 h2)
    | (go_at_call 99; (with_reducible refine (P2.out _ _ h2).mono ?_); rintro e w3 ⟨rfl, h3⟩; clear P2; obtain ⟨a0, a2, a3, a4, a5, a6, d2, d3⟩ := cells_16 h3)
    | (go_at_call 99; (with_reducible refine (P3.out _ _ h3).mono ?_); rintro e w4 ⟨rfl, h4⟩; clear P3; obtain ⟨a0, a2, a3, a4, a5, a6, d2, d3⟩ := cells_16 h4)
    | (refine wpList_load_blk rfl _ _ rfl _ rfl _ _ _ h4.ent Try.underlying119 rfl (by kernel_rfl) ?_)
    | (refine wpList_store_blk rfl _ _ _ rfl _ _ rfl rfl _ _ h4.res (by kernel_rfl) rfl (by simp [Value.oneCell']) ?_))
  exact bodyPost_ret (results_cell rfl _ _ (w.heap.size + 1) _ _ _ rfl (h4.res.row _) Try.underlying119 rfl (by kernel_rfl)) rfl ⟨rfl, below_setRow h4.bel (by omega) _⟩
end Go.Proofs.Yteelconabmfnkaa

/- (table.spec).one at lines of the table. -/
namespace Go.Proofs.Yteelconabmfnkaa
open Go Go.RowKit
set_option maxHeartbeats 4000000
set_option maxRecDepth 100000
set_option linter.unusedVariables false
set_option linter.unusedSimpArgs false
theorem cells_17 {w W : World} {r : R7} (h : St w W sp17 r) : W.cell? ⟨w.heap.size, 0, none⟩ = some (.int .u8 17) ∧ W.cell? ⟨w.heap.size, 2, none⟩ = some (.int .u32 83) ∧ W.cell? ⟨w.heap.size, 3, none⟩ = some (.int .i64 (8)) ∧ W.cell? ⟨w.heap.size, 4, none⟩ = some (.int .i64 (-1)) ∧ W.cell? ⟨w.heap.size, 5, none⟩ = some (.int .i64 (0)) ∧ W.cell? ⟨w.heap.size, 6, none⟩ = some (.int .u8 6) ∧ W.cell? ⟨w.heap.size + 1 + 1, 2, none⟩ = some (.int .u8 (r.frm : Nat)) ∧ W.cell? ⟨w.heap.size + 1 + 1, 3, none⟩ = some (.int .u8 (r.kind : Nat)) :=
  ⟨h.sp.cell 0, h.sp.cell 2, h.sp.cell 3, h.sp.cell 4, h.sp.cell 5, h.sp.cell 6, h.ent.cell 2, h.ent.cell 3⟩
theorem one_17 (w : World) (f n : Nat) (hf : f < 4) (hn : n < 4) : Calls Try.prog 87 #[.agg (specV sp17), .int .u8 f, .int .i64 n] w (OneP w (ONE sp17 f n)) := by
  show Calls Try.prog 87 #[.agg #[.int .u8 17, .string ⟨#[102, 99, 118, 116]⟩, .int .u32 83, .int .i64 (8), .int .i64 (-1), .int .i64 (0), .int .u8 6], .int .u8 f, .int .i64 n] w (OneP w (ONE sp17 f n))
  have P0 : Hid (∀ W r, St w W sp17 r → Calls Try.prog 99 #[.pointer (some ⟨w.heap.size + 1 + 1, 0, none⟩), .int .i64 0, .int .i64 7, .int .u32 83] W fun e W' => e = .returned (.tuple #[]) ∧ St w W' sp17 (pt0 (83) r)) := Lib.hid fun W r h => st_put0 h (83) (by decide)
  have P1 : Hid (∀ W r, St w W sp17 r → Calls Try.prog 99 #[.pointer (some ⟨w.heap.size + 1 + 1, 0, none⟩), .int .i64 25, .int .i64 2, .int .u32 (f : Nat)] W fun e W' => e = .returned (.tuple #[]) ∧ St w W' sp17 (pt25 (f) r)) := Lib.hid fun W r h => st_put25 h (f) (by omega)
  have P2 : Hid (∀ W r, St w W sp17 r → Calls Try.prog 99 #[.pointer (some ⟨w.heap.size + 1 + 1, 0, none⟩), .int .i64 27, .int .i64 5, .int .u32 8] W fun e W' => e = .returned (.tuple #[]) ∧ St w W' sp17 (pt27 (8) r)) := Lib.hid fun W r h => st_put27 h (8) (by decide)
  have P3 : Hid (∀ W r, St w W sp17 r → Calls Try.prog 99 #[.pointer (some ⟨w.heap.size + 1 + 1, 0, none⟩), .int .i64 20, .int .i64 5, .int .u32 (n : Nat)] W fun e W' => e = .returned (.tuple #[]) ∧ St w W' sp17 (pt20 (n) r)) := Lib.hid fun W r h => st_put20 h (n) (by omega)
  have h0 : St w (((w.alloc (.cells #[.int .u8 17, .string ⟨#[102, 99, 118, 116]⟩, .int .u32 83, .int .i64 (8), .int .i64 (-1), .int .i64 (0), .int .u8 6] 116)).alloc (.cells #[.int .u8 0, .int .u8 0, .int .u8 0, .int .u8 0, .int .u32 0, .int .u32 0, .int .u8 0, .string ⟨#[]⟩] 119)).alloc (.cells #[.int .u8 17, .int .u8 (f : Nat), .int .u8 0, .int .u8 0, .int .u32 0, .int .u32 0, .int .u8 6, .string ⟨#[]⟩] 119)) sp17 ⟨17, (f : Nat), 0, 0, 0, 0, 6⟩ := st_start w sp17 f
  obtain ⟨a0, a2, a3, a4, a5, a6, d2, d3⟩ := cells_17 h0
  go_enter Try.func87, Try.ntmps87
  go_wp2_with (first
    | (go_at_call 99; (with_reducible refine (P0.out _ _ h0).mono ?_); rintro e w1 ⟨rfl, h1⟩; clear P0; obtain ⟨a0, a2, a3, a4, a5, a6, d2, d3⟩ := cells_17 h1; have h1' := fun q => (h1.drewN q).setFrom n; have z2 := h1.ent.frozen 2; have b0 := fun q => (cells_17 (h1' q)).1; have b3 := fun q => (cells_17 (h1' q)).2.2.1; have b4 := fun q => (cells_17 (h1' q)).2.2.2.1; have b5 := fun q => (cells_17 (h1' q)).2.2.2.2.1))
  go_quiet (fail)
  go_wp2_with (first
    | (go_at_call 99; (with_reducible refine (P1.out _ _ (h1' _)).mono ?_); rintro e w2 ⟨rfl, h2⟩; clear P1; obtain ⟨a0, a2, a3, a4, a5, a6, d2, d3⟩ := cells_17 h2)
    | (go_at_call 99; (with_reducible refine (P2.out _ _ h2).mono ?_); rintro e w3 ⟨rfl, h3⟩; clear P2; obtain ⟨a0, a2, a3, a4, a5, a6, d2, d3⟩ := cells_17 h3)
    | (go_at_call 99; (with_reducible refine (P3.out _ _ h3).mono ?_); rintro e w4 ⟨rfl, h4⟩; clear P3; obtain ⟨a0, a2, a3, a4, a5, a6, d2, d3⟩ := cells_17 h4)
    | (refine wpList_load_blk rfl _ _ rfl _ rfl _ _ _ h4.ent Try.underlying119 rfl (by kernel_rfl) ?_)
    | (refine wpList_store_blk rfl _ _ _ rfl _ _ rfl rfl _ _ h4.res (by kernel_rfl) rfl (by simp [Value.oneCell']) ?_))
  exact bodyPost_ret (results_cell rfl _ _ (w.heap.size + 1) _ _ _ rfl (h4.res.row _) Try.underlying119 rfl (by kernel_rfl)) rfl ⟨rfl, below_setRow h4.bel (by omega) _⟩
theorem cells_18 {w W : World} {r : R7} (h : St w W sp18 r) : W.cell? ⟨w.heap.size, 0, none⟩ = some (.int .u8 18) ∧ W.cell? ⟨w.heap.size, 2, none⟩ = some (.int .u32 83) ∧ W.cell? ⟨w.heap.size, 3, none⟩ = some (.int .i64 (20)) ∧ W.cell? ⟨w.heap.size, 4, none⟩ = some (.int .i64 (2)) ∧ W.cell? ⟨w.heap.size, 5, none⟩ = some (.int .i64 (-1)) ∧ W.cell? ⟨w.heap.size, 6, none⟩ = some (.int .u8 5) ∧ W.cell? ⟨w.heap.size + 1 + 1, 2, none⟩ = some (.int .u8 (r.frm : Nat)) ∧ W.cell? ⟨w.heap.size + 1 + 1, 3, none⟩ = some (.int .u8 (r.kind : Nat)) :=
  ⟨h.sp.cell 0, h.sp.cell 2, h.sp.cell 3, h.sp.cell 4, h.sp.cell 5, h.sp.cell 6, h.ent.cell 2, h.ent.cell 3⟩
theorem one_18 (w : World) (f n : Nat) (hf : f < 4) (hn : n < 4) : Calls Try.prog 87 #[.agg (specV sp18), .int .u8 f, .int .i64 n] w (OneP w (ONE sp18 f n)) := by
  show Calls Try.prog 87 #[.agg #[.int .u8 18, .string ⟨#[102, 101, 113]⟩, .int .u32 83, .int .i64 (20), .int .i64 (2), .int .i64 (-1), .int .u8 5], .int .u8 f, .int .i64 n] w (OneP w (ONE sp18 f n))
  have P0 : Hid (∀ W r, St w W sp18 r → Calls Try.prog 99 #[.pointer (some ⟨w.heap.size + 1 + 1, 0, none⟩), .int .i64 0, .int .i64 7, .int .u32 83] W fun e W' => e = .returned (.tuple #[]) ∧ St w W' sp18 (pt0 (83) r)) := Lib.hid fun W r h => st_put0 h (83) (by decide)
  have P1 : Hid (∀ W r, St w W sp18 r → Calls Try.prog 99 #[.pointer (some ⟨w.heap.size + 1 + 1, 0, none⟩), .int .i64 25, .int .i64 2, .int .u32 (f : Nat)] W fun e W' => e = .returned (.tuple #[]) ∧ St w W' sp18 (pt25 (f) r)) := Lib.hid fun W r h => st_put25 h (f) (by omega)
  have P2 : Hid (∀ W r, St w W sp18 r → Calls Try.prog 99 #[.pointer (some ⟨w.heap.size + 1 + 1, 0, none⟩), .int .i64 27, .int .i64 5, .int .u32 20] W fun e W' => e = .returned (.tuple #[]) ∧ St w W' sp18 (pt27 (20) r)) := Lib.hid fun W r h => st_put27 h (20) (by decide)
  have P3 : Hid (∀ W r, St w W sp18 r → Calls Try.prog 99 #[.pointer (some ⟨w.heap.size + 1 + 1, 0, none⟩), .int .i64 12, .int .i64 3, .int .u32 2] W fun e W' => e = .returned (.tuple #[]) ∧ St w W' sp18 (pt12 (2) r)) := Lib.hid fun W r h => st_put12 h (2) (by decide)
  have h0 : St w (((w.alloc (.cells #[.int .u8 18, .string ⟨#[102, 101, 113]⟩, .int .u32 83, .int .i64 (20), .int .i64 (2), .int .i64 (-1), .int .u8 5] 116)).alloc (.cells #[.int .u8 0, .int .u8 0, .int .u8 0, .int .u8 0, .int .u32 0, .int .u32 0, .int .u8 0, .string ⟨#[]⟩] 119)).alloc (.cells #[.int .u8 18, .int .u8 (f : Nat), .int .u8 0, .int .u8 0, .int .u32 0, .int .u32 0, .int .u8 5, .string ⟨#[]⟩] 119)) sp18 ⟨18, (f : Nat), 0, 0, 0, 0, 5⟩ := st_start w sp18 f
  obtain ⟨a0, a2, a3, a4, a5, a6, d2, d3⟩ := cells_18 h0
  go_enter Try.func87, Try.ntmps87
  go_wp2_with (first
    | (go_at_call 99; (with_reducible refine (P0.out _ _ h0).mono ?_); rintro e w1 ⟨rfl, h1⟩; clear P0; obtain ⟨a0, a2, a3, a4, a5, a6, d2, d3⟩ := cells_18 h1))
  go_quiet (fail)
  go_wp2_with (first
    | (go_at_call 99; (with_reducible refine (P1.out _ _ (h1.drewN _)).mono ?_); rintro e w2 ⟨rfl, h2⟩; clear P1; obtain ⟨a0, a2, a3, a4, a5, a6, d2, d3⟩ := cells_18 h2)
    | (go_at_call 99; (with_reducible refine (P2.out _ _ h2).mono ?_); rintro e w3 ⟨rfl, h3⟩; clear P2; obtain ⟨a0, a2, a3, a4, a5, a6, d2, d3⟩ := cells_18 h3)
    | (go_at_call 99; (with_reducible refine (P3.out _ _ h3).mono ?_); rintro e w4 ⟨rfl, h4⟩; clear P3; obtain ⟨a0, a2, a3, a4, a5, a6, d2, d3⟩ := cells_18 h4)
    | (refine wpList_load_blk rfl _ _ rfl _ rfl _ _ _ h4.ent Try.underlying119 rfl (by kernel_rfl) ?_)
    | (refine wpList_store_blk rfl _ _ _ rfl _ _ rfl rfl _ _ h4.res (by kernel_rfl) rfl (by simp [Value.oneCell']) ?_))
  exact bodyPost_ret (results_cell rfl _ _ (w.heap.size + 1) _ _ _ rfl (h4.res.row _) Try.underlying119 rfl (by kernel_rfl)) rfl ⟨rfl, below_setRow h4.bel (by omega) _⟩
theorem cells_19 {w W : World} {r : R7} (h : St w W sp19 r) : W.cell? ⟨w.heap.size, 0, none⟩ = some (.int .u8 19) ∧ W.cell? ⟨w.heap.size, 2, none⟩ = some (.int .u32 83) ∧ W.cell? ⟨w.heap.size, 3, none⟩ = some (.int .i64 (20)) ∧ W.cell? ⟨w.heap.size, 4, none⟩ = some (.int .i64 (1)) ∧ W.cell? ⟨w.heap.size, 5, none⟩ = some (.int .i64 (-1)) ∧ W.cell? ⟨w.heap.size, 6, none⟩ = some (.int .u8 5) ∧ W.cell? ⟨w.heap.size + 1 + 1, 2, none⟩ = some (.int .u8 (r.frm : Nat)) ∧ W.cell? ⟨w.heap.size + 1 + 1, 3, none⟩ = some (.int .u8 (r.kind : Nat)) :=
  ⟨h.sp.cell 0, h.sp.cell 2, h.sp.cell 3, h.sp.cell 4, h.sp.cell 5, h.sp.cell 6, h.ent.cell 2, h.ent.cell 3⟩
theorem one_19 (w : World) (f n : Nat) (hf : f < 4) (hn : n < 4) : Calls Try.prog 87 #[.agg (specV sp19), .int .u8 f, .int .i64 n] w (OneP w (ONE sp19 f n)) := by
  show Calls Try.prog 87 #[.agg #[.int .u8 19, .string ⟨#[102, 108, 116]⟩, .int .u32 83, .int .i64 (20), .int .i64 (1), .int .i64 (-1), .int .u8 5], .int .u8 f, .int .i64 n] w (OneP w (ONE sp19 f n))
  have P0 : Hid (∀ W r, St w W sp19 r → Calls Try.prog 99 #[.pointer (some ⟨w.heap.size + 1 + 1, 0, none⟩), .int .i64 0, .int .i64 7, .int .u32 83] W fun e W' => e = .returned (.tuple #[]) ∧ St w W' sp19 (pt0 (83) r)) := Lib.hid fun W r h => st_put0 h (83) (by decide)
  have P1 : Hid (∀ W r, St w W sp19 r → Calls Try.prog 99 #[.pointer (some ⟨w.heap.size + 1 + 1, 0, none⟩), .int .i64 25, .int .i64 2, .int .u32 (f : Nat)] W fun e W' => e = .returned (.tuple #[]) ∧ St w W' sp19 (pt25 (f) r)) := Lib.hid fun W r h => st_put25 h (f) (by omega)
  have P2 : Hid (∀ W r, St w W sp19 r → Calls Try.prog 99 #[.pointer (some ⟨w.heap.size + 1 + 1, 0, none⟩), .int .i64 27, .int .i64 5, .int .u32 20] W fun e W' => e = .returned (.tuple #[]) ∧ St w W' sp19 (pt27 (20) r)) := Lib.hid fun W r h => st_put27 h (20) (by decide)
  have P3 : Hid (∀ W r, St w W sp19 r → Calls Try.prog 99 #[.pointer (some ⟨w.heap.size + 1 + 1, 0, none⟩), .int .i64 12, .int .i64 3, .int .u32 1] W fun e W' => e = .returned (.tuple #[]) ∧ St w W' sp19 (pt12 (1) r)) := Lib.hid fun W r h => st_put12 h (1) (by decide)
  have h0 : St w (((w.alloc (.cells #[.int .u8 19, .string ⟨#[102, 108, 116]⟩, .int .u32 83, .int .i64 (20), .int .i64 (1), .int .i64 (-1), .int .u8 5] 116)).alloc (.cells #[.int .u8 0, .int .u8 0, .int .u8 0, .int .u8 0, .int .u32 0, .int .u32 0, .int .u8 0, .string ⟨#[]⟩] 119)).alloc (.cells #[.int .u8 19, .int .u8 (f : Nat), .int .u8 0, .int .u8 0, .int .u32 0, .int .u32 0, .int .u8 5, .string ⟨#[]⟩] 119)) sp19 ⟨19, (f : Nat), 0, 0, 0, 0, 5⟩ := st_start w sp19 f
  obtain ⟨a0, a2, a3, a4, a5, a6, d2, d3⟩ := cells_19 h0
  go_enter Try.func87, Try.ntmps87
  go_wp2_with (first
    | (go_at_call 99; (with_reducible refine (P0.out _ _ h0).mono ?_); rintro e w1 ⟨rfl, h1⟩; clear P0; obtain ⟨a0, a2, a3, a4, a5, a6, d2, d3⟩ := cells_19 h1))
  go_quiet (fail)
  go_wp2_with (first
    | (go_at_call 99; (with_reducible refine (P1.out _ _ (h1.drewN _)).mono ?_); rintro e w2 ⟨rfl, h2⟩; clear P1; obtain ⟨a0, a2, a3, a4, a5, a6, d2, d3⟩ := cells_19 h2)
    | (go_at_call 99; (with_reducible refine (P2.out _ _ h2).mono ?_); rintro e w3 ⟨rfl, h3⟩; clear P2; obtain ⟨a0, a2, a3, a4, a5, a6, d2, d3⟩ := cells_19 h3)
    | (go_at_call 99; (with_reducible refine (P3.out _ _ h3).mono ?_); rintro e w4 ⟨rfl, h4⟩; clear P3; obtain ⟨a0, a2, a3, a4, a5, a6, d2, d3⟩ := cells_19 h4)
    | (refine wpList_load_blk rfl _ _ rfl _ rfl _ _ _ h4.ent Try.underlying119 rfl (by kernel_rfl) ?_)
    | (refine wpList_store_blk rfl _ _ _ rfl _ _ rfl rfl _ _ h4.res (by kernel_rfl) rfl (by simp [Value.oneCell']) ?_))
  exact bodyPost_ret (results_cell rfl _ _ (w.heap.size + 1) _ _ _ rfl (h4.res.row _) Try.underlying119 rfl (by kernel_rfl)) rfl ⟨rfl, below_setRow h4.bel (by omega) _⟩
theorem cells_20 {w W : World} {r : R7} (h : St w W sp20 r) : W.cell? ⟨w.heap.size, 0, none⟩ = some (.int .u8 20) ∧ W.cell? ⟨w.heap.size, 2, none⟩ = some (.int .u32 83) ∧ W.cell? ⟨w.heap.size, 3, none⟩ = some (.int .i64 (20)) ∧ W.cell? ⟨w.heap.size, 4, none⟩ = some (.int .i64 (0)) ∧ W.cell? ⟨w.heap.size, 5, none⟩ = some (.int .i64 (-1)) ∧ W.cell? ⟨w.heap.size, 6, none⟩ = some (.int .u8 5) ∧ W.cell? ⟨w.heap.size + 1 + 1, 2, none⟩ = some (.int .u8 (r.frm : Nat)) ∧ W.cell? ⟨w.heap.size + 1 + 1, 3, none⟩ = some (.int .u8 (r.kind : Nat)) :=
  ⟨h.sp.cell 0, h.sp.cell 2, h.sp.cell 3, h.sp.cell 4, h.sp.cell 5, h.sp.cell 6, h.ent.cell 2, h.ent.cell 3⟩
theorem one_20 (w : World) (f n : Nat) (hf : f < 4) (hn : n < 4) : Calls Try.prog 87 #[.agg (specV sp20), .int .u8 f, .int .i64 n] w (OneP w (ONE sp20 f n)) := by
  show Calls Try.prog 87 #[.agg #[.int .u8 20, .string ⟨#[102, 108, 101]⟩, .int .u32 83, .int .i64 (20), .int .i64 (0), .int .i64 (-1), .int .u8 5], .int .u8 f, .int .i64 n] w (OneP w (ONE sp20 f n))
  have P0 : Hid (∀ W r, St w W sp20 r → Calls Try.prog 99 #[.pointer (some ⟨w.heap.size + 1 + 1, 0, none⟩), .int .i64 0, .int .i64 7, .int .u32 83] W fun e W' => e = .returned (.tuple #[]) ∧ St w W' sp20 (pt0 (83) r)) := Lib.hid fun W r h => st_put0 h (83) (by decide)
  have P1 : Hid (∀ W r, St w W sp20 r → Calls Try.prog 99 #[.pointer (some ⟨w.heap.size + 1 + 1, 0, none⟩), .int .i64 25, .int .i64 2, .int .u32 (f : Nat)] W fun e W' => e = .returned (.tuple #[]) ∧ St w W' sp20 (pt25 (f) r)) := Lib.hid fun W r h => st_put25 h (f) (by omega)
  have P2 : Hid (∀ W r, St w W sp20 r → Calls Try.prog 99 #[.pointer (some ⟨w.heap.size + 1 + 1, 0, none⟩), .int .i64 27, .int .i64 5, .int .u32 20] W fun e W' => e = .returned (.tuple #[]) ∧ St w W' sp20 (pt27 (20) r)) := Lib.hid fun W r h => st_put27 h (20) (by decide)
  have P3 : Hid (∀ W r, St w W sp20 r → Calls Try.prog 99 #[.pointer (some ⟨w.heap.size + 1 + 1, 0, none⟩), .int .i64 12, .int .i64 3, .int .u32 0] W fun e W' => e = .returned (.tuple #[]) ∧ St w W' sp20 (pt12 (0) r)) := Lib.hid fun W r h => st_put12 h (0) (by decide)
  have h0 : St w (((w.alloc (.cells #[.int .u8 20, .string ⟨#[102, 108, 101]⟩, .int .u32 83, .int .i64 (20), .int .i64 (0), .int .i64 (-1), .int .u8 5] 116)).alloc (.cells #[.int .u8 0, .int .u8 0, .int .u8 0, .int .u8 0, .int .u32 0, .int .u32 0, .int .u8 0, .string ⟨#[]⟩] 119)).alloc (.cells #[.int .u8 20, .int .u8 (f : Nat), .int .u8 0, .int .u8 0, .int .u32 0, .int .u32 0, .int .u8 5, .string ⟨#[]⟩] 119)) sp20 ⟨20, (f : Nat), 0, 0, 0, 0, 5⟩ := st_start w sp20 f
  obtain ⟨a0, a2, a3, a4, a5, a6, d2, d3⟩ := cells_20 h0
  go_enter Try.func87, Try.ntmps87
  go_wp2_with (first
    | (go_at_call 99; (with_reducible refine (P0.out _ _ h0).mono ?_); rintro e w1 ⟨rfl, h1⟩; clear P0; obtain ⟨a0, a2, a3, a4, a5, a6, d2, d3⟩ := cells_20 h1))
  go_quiet (fail)
  go_wp2_with (first
    | (go_at_call 99; (with_reducible refine (P1.out _ _ (h1.drewN _)).mono ?_); rintro e w2 ⟨rfl, h2⟩; clear P1; obtain ⟨a0, a2, a3, a4, a5, a6, d2, d3⟩ := cells_20 h2)
    | (go_at_call 99; (with_reducible refine (P2.out _ _ h2).mono ?_); rintro e w3 ⟨rfl, h3⟩; clear P2; obtain ⟨a0, a2, a3, a4, a5, a6, d2, d3⟩ := cells_20 h3)
    | (go_at_call 99; (with_reducible refine (P3.out _ _ h3).mono ?_); rintro e w4 ⟨rfl, h4⟩; clear P3; obtain ⟨a0, a2, a3, a4, a5, a6, d2, d3⟩ := cells_20 h4)
    | (refine wpList_load_blk rfl _ _ rfl _ rfl _ _ _ h4.ent Try.underlying119 rfl (by kernel_rfl) ?_)
    | (refine wpList_store_blk rfl _ _ _ rfl _ _ rfl rfl _ _ h4.res (by kernel_rfl) rfl (by simp [Value.oneCell']) ?_))
  exact bodyPost_ret (results_cell rfl _ _ (w.heap.size + 1) _ _ _ rfl (h4.res.row _) Try.underlying119 rfl (by kernel_rfl)) rfl ⟨rfl, below_setRow h4.bel (by omega) _⟩
theorem cells_21 {w W : World} {r : R7} (h : St w W sp21 r) : W.cell? ⟨w.heap.size, 0, none⟩ = some (.int .u8 21) ∧ W.cell? ⟨w.heap.size, 2, none⟩ = some (.int .u32 83) ∧ W.cell? ⟨w.heap.size, 3, none⟩ = some (.int .i64 (24)) ∧ W.cell? ⟨w.heap.size, 4, none⟩ = some (.int .i64 (-1)) ∧ W.cell? ⟨w.heap.size, 5, none⟩ = some (.int .i64 (0)) ∧ W.cell? ⟨w.heap.size, 6, none⟩ = some (.int .u8 6) ∧ W.cell? ⟨w.heap.size + 1 + 1, 2, none⟩ = some (.int .u8 (r.frm : Nat)) ∧ W.cell? ⟨w.heap.size + 1 + 1, 3, none⟩ = some (.int .u8 (r.kind : Nat)) :=
  ⟨h.sp.cell 0, h.sp.cell 2, h.sp.cell 3, h.sp.cell 4, h.sp.cell 5, h.sp.cell 6, h.ent.cell 2, h.ent.cell 3⟩
theorem one_21 (w : World) (f n : Nat) (hf : f < 4) (hn : n < 4) : Calls Try.prog 87 #[.agg (specV sp21), .int .u8 f, .int .i64 n] w (OneP w (ONE sp21 f n)) := by
  show Calls Try.prog 87 #[.agg #[.int .u8 21, .string ⟨#[102, 99, 118, 116]⟩, .int .u32 83, .int .i64 (24), .int .i64 (-1), .int .i64 (0), .int .u8 6], .int .u8 f, .int .i64 n] w (OneP w (ONE sp21 f n))
  have P0 : Hid (∀ W r, St w W sp21 r → Calls Try.prog 99 #[.pointer (some ⟨w.heap.size + 1 + 1, 0, none⟩), .int .i64 0, .int .i64 7, .int .u32 83] W fun e W' => e = .returned (.tuple #[]) ∧ St w W' sp21 (pt0 (83) r)) := Lib.hid fun W r h => st_put0 h (83) (by decide)
  have P1 : Hid (∀ W r, St w W sp21 r → Calls Try.prog 99 #[.pointer (some ⟨w.heap.size + 1 + 1, 0, none⟩), .int .i64 25, .int .i64 2, .int .u32 (f : Nat)] W fun e W' => e = .returned (.tuple #[]) ∧ St w W' sp21 (pt25 (f) r)) := Lib.hid fun W r h => st_put25 h (f) (by omega)
  have P2 : Hid (∀ W r, St w W sp21 r → Calls Try.prog 99 #[.pointer (some ⟨w.heap.size + 1 + 1, 0, none⟩), .int .i64 27, .int .i64 5, .int .u32 24] W fun e W' => e = .returned (.tuple #[]) ∧ St w W' sp21 (pt27 (24) r)) := Lib.hid fun W r h => st_put27 h (24) (by decide)
  have P3 : Hid (∀ W r, St w W sp21 r → Calls Try.prog 99 #[.pointer (some ⟨w.heap.size + 1 + 1, 0, none⟩), .int .i64 20, .int .i64 5, .int .u32 (n : Nat)] W fun e W' => e = .returned (.tuple #[]) ∧ St w W' sp21 (pt20 (n) r)) := Lib.hid fun W r h => st_put20 h (n) (by omega)
  have h0 : St w (((w.alloc (.cells #[.int .u8 21, .string ⟨#[102, 99, 118, 116]⟩, .int .u32 83, .int .i64 (24), .int .i64 (-1), .int .i64 (0), .int .u8 6] 116)).alloc (.cells #[.int .u8 0, .int .u8 0, .int .u8 0, .int .u8 0, .int .u32 0, .int .u32 0, .int .u8 0, .string ⟨#[]⟩] 119)).alloc (.cells #[.int .u8 21, .int .u8 (f : Nat), .int .u8 0, .int .u8 0, .int .u32 0, .int .u32 0, .int .u8 6, .string ⟨#[]⟩] 119)) sp21 ⟨21, (f : Nat), 0, 0, 0, 0, 6⟩ := st_start w sp21 f
  obtain ⟨a0, a2, a3, a4, a5, a6, d2, d3⟩ := cells_21 h0
  go_enter Try.func87, Try.ntmps87
  go_wp2_with (first
    | (go_at_call 99; (with_reducible refine (P0.out _ _ h0).mono ?_); rintro e w1 ⟨rfl, h1⟩; clear P0; obtain ⟨a0, a2, a3, a4, a5, a6, d2, d3⟩ := cells_21 h1; have h1' := fun q => (h1.drewN q).setKind n; have z3 := h1.ent.frozen 3; have b0 := fun q => (cells_21 (h1' q)).1; have b3 := fun q => (cells_21 (h1' q)).2.2.1; have b4 := fun q => (cells_21 (h1' q)).2.2.2.1; have b5 := fun q => (cells_21 (h1' q)).2.2.2.2.1))
  go_quiet (fail)
  go_wp2_with (first
    | (go_at_call 99; (with_reducible refine (P1.out _ _ (h1' _)).mono ?_); rintro e w2 ⟨rfl, h2⟩; clear P1; obtain ⟨a0, a2, a3, a4, a5, a6, d2, d3⟩ := cells_21 h2)
    | (go_at_call 99; (with_reducible refine (P2.out _ _ h2).mono ?_); rintro e w3 ⟨rfl, h3⟩; clear P2; obtain ⟨a0, a2, a3, a4, a5, a6, d2, d3⟩ := cells_21 h3)
    | (go_at_call 99; (with_reducible refine (P3.out _ _ h3).mono ?_); rintro e w4 ⟨rfl, h4⟩; clear P3; obtain ⟨a0, a2, a3, a4, a5, a6, d2, d3⟩ := cells_21 h4)
    | (refine wpList_load_blk rfl _ _ rfl _ rfl _ _ _ h4.ent Try.underlying119 rfl (by kernel_rfl) ?_)
    | (refine wpList_store_blk rfl _ _ _ rfl _ _ rfl rfl _ _ h4.res (by kernel_rfl) rfl (by simp [Value.oneCell']) ?_))
  exact bodyPost_ret (results_cell rfl _ _ (w.heap.size + 1) _ _ _ rfl (h4.res.row _) Try.underlying119 rfl (by kernel_rfl)) rfl ⟨rfl, below_setRow h4.bel (by omega) _⟩
theorem cells_22 {w W : World} {r : R7} (h : St w W sp22 r) : W.cell? ⟨w.heap.size, 0, none⟩ = some (.int .u8 22) ∧ W.cell? ⟨w.heap.size, 2, none⟩ = some (.int .u32 83) ∧ W.cell? ⟨w.heap.size, 3, none⟩ = some (.int .i64 (26)) ∧ W.cell? ⟨w.heap.size, 4, none⟩ = some (.int .i64 (-1)) ∧ W.cell? ⟨w.heap.size, 5, none⟩ = some (.int .i64 (0)) ∧ W.cell? ⟨w.heap.size, 6, none⟩ = some (.int .u8 6) ∧ W.cell? ⟨w.heap.size + 1 + 1, 2, none⟩ = some (.int .u8 (r.frm : Nat)) ∧ W.cell? ⟨w.heap.size + 1 + 1, 3, none⟩ = some (.int .u8 (r.kind : Nat)) :=
  ⟨h.sp.cell 0, h.sp.cell 2, h.sp.cell 3, h.sp.cell 4, h.sp.cell 5, h.sp.cell 6, h.ent.cell 2, h.ent.cell 3⟩
theorem one_22 (w : World) (f n : Nat) (hf : f < 4) (hn : n < 4) : Calls Try.prog 87 #[.agg (specV sp22), .int .u8 f, .int .i64 n] w (OneP w (ONE sp22 f n)) := by
  show Calls Try.prog 87 #[.agg #[.int .u8 22, .string ⟨#[102, 99, 118, 116]⟩, .int .u32 83, .int .i64 (26), .int .i64 (-1), .int .i64 (0), .int .u8 6], .int .u8 f, .int .i64 n] w (OneP w (ONE sp22 f n))
  have P0 : Hid (∀ W r, St w W sp22 r → Calls Try.prog 99 #[.pointer (some ⟨w.heap.size + 1 + 1, 0, none⟩), .int .i64 0, .int .i64 7, .int .u32 83] W fun e W' => e = .returned (.tuple #[]) ∧ St w W' sp22 (pt0 (83) r)) := Lib.hid fun W r h => st_put0 h (83) (by decide)
  have P1 : Hid (∀ W r, St w W sp22 r → Calls Try.prog 99 #[.pointer (some ⟨w.heap.size + 1 + 1, 0, none⟩), .int .i64 25, .int .i64 2, .int .u32 (f : Nat)] W fun e W' => e = .returned (.tuple #[]) ∧ St w W' sp22 (pt25 (f) r)) := Lib.hid fun W r h => st_put25 h (f) (by omega)
  have P2 : Hid (∀ W r, St w W sp22 r → Calls Try.prog 99 #[.pointer (some ⟨w.heap.size + 1 + 1, 0, none⟩), .int .i64 27, .int .i64 5, .int .u32 26] W fun e W' => e = .returned (.tuple #[]) ∧ St w W' sp22 (pt27 (26) r)) := Lib.hid fun W r h => st_put27 h (26) (by decide)
  have P3 : Hid (∀ W r, St w W sp22 r → Calls Try.prog 99 #[.pointer (some ⟨w.heap.size + 1 + 1, 0, none⟩), .int .i64 20, .int .i64 5, .int .u32 (n : Nat)] W fun e W' => e = .returned (.tuple #[]) ∧ St w W' sp22 (pt20 (n) r)) := Lib.hid fun W r h => st_put20 h (n) (by omega)
  have h0 : St w (((w.alloc (.cells #[.int .u8 22, .string ⟨#[102, 99, 118, 116]⟩, .int .u32 83, .int .i64 (26), .int .i64 (-1), .int .i64 (0), .int .u8 6] 116)).alloc (.cells #[.int .u8 0, .int .u8 0, .int .u8 0, .int .u8 0, .int .u32 0, .int .u32 0, .int .u8 0, .string ⟨#[]⟩] 119)).alloc (.cells #[.int .u8 22, .int .u8 (f : Nat), .int .u8 0, .int .u8 0, .int .u32 0, .int .u32 0, .int .u8 6, .string ⟨#[]⟩] 119)) sp22 ⟨22, (f : Nat), 0, 0, 0, 0, 6⟩ := st_start w sp22 f
  obtain ⟨a0, a2, a3, a4, a5, a6, d2, d3⟩ := cells_22 h0
  go_enter Try.func87, Try.ntmps87
  go_wp2_with (first
    | (go_at_call 99; (with_reducible refine (P0.out _ _ h0).mono ?_); rintro e w1 ⟨rfl, h1⟩; clear P0; obtain ⟨a0, a2, a3, a4, a5, a6, d2, d3⟩ := cells_22 h1; have h1' := fun q => (h1.drewN q).setKind n; have z3 := h1.ent.frozen 3; have b0 := fun q => (cells_22 (h1' q)).1; have b3 := fun q => (cells_22 (h1' q)).2.2.1; have b4 := fun q => (cells_22 (h1' q)).2.2.2.1; have b5 := fun q => (cells_22 (h1' q)).2.2.2.2.1))
  go_quiet (fail)
  go_wp2_with (first
    | (go_at_call 99; (with_reducible refine (P1.out _ _ (h1' _)).mono ?_); rintro e w2 ⟨rfl, h2⟩; clear P1; obtain ⟨a0, a2, a3, a4, a5, a6, d2, d3⟩ := cells_22 h2)
    | (go_at_call 99; (with_reducible refine (P2.out _ _ h2).mono ?_); rintro e w3 ⟨rfl, h3⟩; clear P2; obtain ⟨a0, a2, a3, a4, a5, a6, d2, d3⟩ := cells_22 h3)
    | (go_at_call 99; (with_reducible refine (P3.out _ _ h3).mono ?_); rintro e w4 ⟨rfl, h4⟩; clear P3; obtain ⟨a0, a2, a3, a4, a5, a6, d2, d3⟩ := cells_22 h4)
    | (refine wpList_load_blk rfl _ _ rfl _ rfl _ _ _ h4.ent Try.underlying119 rfl (by kernel_rfl) ?_)
    | (refine wpList_store_blk rfl _ _ _ rfl _ _ rfl rfl _ _ h4.res (by kernel_rfl) rfl (by simp [Value.oneCell']) ?_))
  exact bodyPost_ret (results_cell rfl _ _ (w.heap.size + 1) _ _ _ rfl (h4.res.row _) Try.underlying119 rfl (by kernel_rfl)) rfl ⟨rfl, below_setRow h4.bel (by omega) _⟩
theorem cells_23 {w W : World} {r : R7} (h : St w W sp23 r) : W.cell? ⟨w.heap.size, 0, none⟩ = some (.int .u8 23) ∧ W.cell? ⟨w.heap.size, 2, none⟩ = some (.int .u32 83) ∧ W.cell? ⟨w.heap.size, 3, none⟩ = some (.int .i64 (28)) ∧ W.cell? ⟨w.heap.size, 4, none⟩ = some (.int .i64 (0)) ∧ W.cell? ⟨w.heap.size, 5, none⟩ = some (.int .i64 (0)) ∧ W.cell? ⟨w.heap.size, 6, none⟩ = some (.int .u8 7) ∧ W.cell? ⟨w.heap.size + 1 + 1, 2, none⟩ = some (.int .u8 (r.frm : Nat)) ∧ W.cell? ⟨w.heap.size + 1 + 1, 3, none⟩ = some (.int .u8 (r.kind : Nat)) :=
  ⟨h.sp.cell 0, h.sp.cell 2, h.sp.cell 3, h.sp.cell 4, h.sp.cell 5, h.sp.cell 6, h.ent.cell 2, h.ent.cell 3⟩
theorem one_23 (w : World) (f n : Nat) (hf : f < 4) (hn : n < 4) : Calls Try.prog 87 #[.agg (specV sp23), .int .u8 f, .int .i64 n] w (OneP w (ONE sp23 f n)) := by
  show Calls Try.prog 87 #[.agg #[.int .u8 23, .string ⟨#[102, 109, 118, 46, 120]⟩, .int .u32 83, .int .i64 (28), .int .i64 (0), .int .i64 (0), .int .u8 7], .int .u8 f, .int .i64 n] w (OneP w (ONE sp23 f n))
  have P0 : Hid (∀ W r, St w W sp23 r → Calls Try.prog 99 #[.pointer (some ⟨w.heap.size + 1 + 1, 0, none⟩), .int .i64 0, .int .i64 7, .int .u32 83] W fun e W' => e = .returned (.tuple #[]) ∧ St w W' sp23 (pt0 (83) r)) := Lib.hid fun W r h => st_put0 h (83) (by decide)
  have P1 : Hid (∀ W r, St w W sp23 r → Calls Try.prog 99 #[.pointer (some ⟨w.heap.size + 1 + 1, 0, none⟩), .int .i64 25, .int .i64 2, .int .u32 (f : Nat)] W fun e W' => e = .returned (.tuple #[]) ∧ St w W' sp23 (pt25 (f) r)) := Lib.hid fun W r h => st_put25 h (f) (by omega)
  have P2 : Hid (∀ W r, St w W sp23 r → Calls Try.prog 99 #[.pointer (some ⟨w.heap.size + 1 + 1, 0, none⟩), .int .i64 27, .int .i64 5, .int .u32 28] W fun e W' => e = .returned (.tuple #[]) ∧ St w W' sp23 (pt27 (28) r)) := Lib.hid fun W r h => st_put27 h (28) (by decide)
  have P3 : Hid (∀ W r, St w W sp23 r → Calls Try.prog 99 #[.pointer (some ⟨w.heap.size + 1 + 1, 0, none⟩), .int .i64 12, .int .i64 3, .int .u32 0] W fun e W' => e = .returned (.tuple #[]) ∧ St w W' sp23 (pt12 (0) r)) := Lib.hid fun W r h => st_put12 h (0) (by decide)
  have P4 : Hid (∀ W r, St w W sp23 r → Calls Try.prog 99 #[.pointer (some ⟨w.heap.size + 1 + 1, 0, none⟩), .int .i64 20, .int .i64 5, .int .u32 0] W fun e W' => e = .returned (.tuple #[]) ∧ St w W' sp23 (pt20 (0) r)) := Lib.hid fun W r h => st_put20 h (0) (by decide)
  have h0 : St w (((w.alloc (.cells #[.int .u8 23, .string ⟨#[102, 109, 118, 46, 120]⟩, .int .u32 83, .int .i64 (28), .int .i64 (0), .int .i64 (0), .int .u8 7] 116)).alloc (.cells #[.int .u8 0, .int .u8 0, .int .u8 0, .int .u8 0, .int .u32 0, .int .u32 0, .int .u8 0, .string ⟨#[]⟩] 119)).alloc (.cells #[.int .u8 23, .int .u8 (f : Nat), .int .u8 0, .int .u8 0, .int .u32 0, .int .u32 0, .int .u8 7, .string ⟨#[]⟩] 119)) sp23 ⟨23, (f : Nat), 0, 0, 0, 0, 7⟩ := st_start w sp23 f
  obtain ⟨a0, a2, a3, a4, a5, a6, d2, d3⟩ := cells_23 h0
  go_enter Try.func87, Try.ntmps87
  go_wp2_with (first
    | (go_at_call 99; (with_reducible refine (P0.out _ _ h0).mono ?_); rintro e w1 ⟨rfl, h1⟩; clear P0; obtain ⟨a0, a2, a3, a4, a5, a6, d2, d3⟩ := cells_23 h1))
  go_quiet (fail)
  go_wp2_with (first
    | (go_at_call 99; (with_reducible refine (P1.out _ _ (h1.drewN _)).mono ?_); rintro e w2 ⟨rfl, h2⟩; clear P1; obtain ⟨a0, a2, a3, a4, a5, a6, d2, d3⟩ := cells_23 h2)
    | (go_at_call 99; (with_reducible refine (P2.out _ _ h2).mono ?_); rintro e w3 ⟨rfl, h3⟩; clear P2; obtain ⟨a0, a2, a3, a4, a5, a6, d2, d3⟩ := cells_23 h3)
    | (go_at_call 99; (with_reducible refine (P3.out _ _ h3).mono ?_); rintro e w4 ⟨rfl, h4⟩; clear P3; obtain ⟨a0, a2, a3, a4, a5, a6, d2, d3⟩ := cells_23 h4)
    | (go_at_call 99; (with_reducible refine (P4.out _ _ h4).mono ?_); rintro e w5 ⟨rfl, h5⟩; clear P4; obtain ⟨a0, a2, a3, a4, a5, a6, d2, d3⟩ := cells_23 h5)
    | (refine wpList_load_blk rfl _ _ rfl _ rfl _ _ _ h5.ent Try.underlying119 rfl (by kernel_rfl) ?_)
    | (refine wpList_store_blk rfl _ _ _ rfl _ _ rfl rfl _ _ h5.res (by kernel_rfl) rfl (by simp [Value.oneCell']) ?_))
  exact bodyPost_ret (results_cell rfl _ _ (w.heap.size + 1) _ _ _ rfl (h5.res.row _) Try.underlying119 rfl (by kernel_rfl)) rfl ⟨rfl, below_setRow h5.bel (by omega) _⟩
theorem cells_24 {w W : World} {r : R7} (h : St w W sp24 r) : W.cell? ⟨w.heap.size, 0, none⟩ = some (.int .u8 24) ∧ W.cell? ⟨w.heap.size, 2, none⟩ = some (.int .u32 83) ∧ W.cell? ⟨w.heap.size, 3, none⟩ = some (.int .i64 (28)) ∧ W.cell? ⟨w.heap.size, 4, none⟩ = some (.int .i64 (1)) ∧ W.cell? ⟨w.heap.size, 5, none⟩ = some (.int .i64 (0)) ∧ W.cell? ⟨w.heap.size, 6, none⟩ = some (.int .u8 7) ∧ W.cell? ⟨w.heap.size + 1 + 1, 2, none⟩ = some (.int .u8 (r.frm : Nat)) ∧ W.cell? ⟨w.heap.size + 1 + 1, 3, none⟩ = some (.int .u8 (r.kind : Nat)) :=
  ⟨h.sp.cell 0, h.sp.cell 2, h.sp.cell 3, h.sp.cell 4, h.sp.cell 5, h.sp.cell 6, h.ent.cell 2, h.ent.cell 3⟩
theorem one_24 (w : World) (f n : Nat) (hf : f < 4) (hn : n < 4) : Calls Try.prog 87 #[.agg (specV sp24), .int .u8 f, .int .i64 n] w (OneP w (ONE sp24 f n)) := by
  show Calls Try.prog 87 #[.agg #[.int .u8 24, .string ⟨#[102, 99, 108, 97, 115, 115]⟩, .int .u32 83, .int .i64 (28), .int .i64 (1), .int .i64 (0), .int .u8 7], .int .u8 f, .int .i64 n] w (OneP w (ONE sp24 f n))
  have P0 : Hid (∀ W r, St w W sp24 r → Calls Try.prog 99 #[.pointer (some ⟨w.heap.size + 1 + 1, 0, none⟩), .int .i64 0, .int .i64 7, .int .u32 83] W fun e W' => e = .returned (.tuple #[]) ∧ St w W' sp24 (pt0 (83) r)) := Lib.hid fun W r h => st_put0 h (83) (by decide)
  have P1 : Hid (∀ W r, St w W sp24 r → Calls Try.prog 99 #[.pointer (some ⟨w.heap.size + 1 + 1, 0, none⟩), .int .i64 25, .int .i64 2, .int .u32 (f : Nat)] W fun e W' => e = .returned (.tuple #[]) ∧ St w W' sp24 (pt25 (f) r)) := Lib.hid fun W r h => st_put25 h (f) (by omega)
  have P2 : Hid (∀ W r, St w W sp24 r → Calls Try.prog 99 #[.pointer (some ⟨w.heap.size + 1 + 1, 0, none⟩), .int .i64 27, .int .i64 5, .int .u32 28] W fun e W' => e = .returned (.tuple #[]) ∧ St w W' sp24 (pt27 (28) r)) := Lib.hid fun W r h => st_put27 h (28) (by decide)
  have P3 : Hid (∀ W r, St w W sp24 r → Calls Try.prog 99 #[.pointer (some ⟨w.heap.size + 1 + 1, 0, none⟩), .int .i64 12, .int .i64 3, .int .u32 1] W fun e W' => e = .returned (.tuple #[]) ∧ St w W' sp24 (pt12 (1) r)) := Lib.hid fun W r h => st_put12 h (1) (by decide)
  have P4 : Hid (∀ W r, St w W sp24 r → Calls Try.prog 99 #[.pointer (some ⟨w.heap.size + 1 + 1, 0, none⟩), .int .i64 20, .int .i64 5, .int .u32 0] W fun e W' => e = .returned (.tuple #[]) ∧ St w W' sp24 (pt20 (0) r)) := Lib.hid fun W r h => st_put20 h (0) (by decide)
  have h0 : St w (((w.alloc (.cells #[.int .u8 24, .string ⟨#[102, 99, 108, 97, 115, 115]⟩, .int .u32 83, .int .i64 (28), .int .i64 (1), .int .i64 (0), .int .u8 7] 116)).alloc (.cells #[.int .u8 0, .int .u8 0, .int .u8 0, .int .u8 0, .int .u32 0, .int .u32 0, .int .u8 0, .string ⟨#[]⟩] 119)).alloc (.cells #[.int .u8 24, .int .u8 (f : Nat), .int .u8 0, .int .u8 0, .int .u32 0, .int .u32 0, .int .u8 7, .string ⟨#[]⟩] 119)) sp24 ⟨24, (f : Nat), 0, 0, 0, 0, 7⟩ := st_start w sp24 f
  obtain ⟨a0, a2, a3, a4, a5, a6, d2, d3⟩ := cells_24 h0
  go_enter Try.func87, Try.ntmps87
  go_wp2_with (first
    | (go_at_call 99; (with_reducible refine (P0.out _ _ h0).mono ?_); rintro e w1 ⟨rfl, h1⟩; clear P0; obtain ⟨a0, a2, a3, a4, a5, a6, d2, d3⟩ := cells_24 h1))
  go_quiet (fail)
  go_wp2_with (first
    | (go_at_call 99; (with_reducible refine (P1.out _ _ (h1.drewN _)).mono ?_); rintro e w2 ⟨rfl, h2⟩; clear P1; obtain ⟨a0, a2, a3, a4, a5, a6, d2, d3⟩ := cells_24 h2)
    | (go_at_call 99; (with_reducible refine (P2.out _ _ h2).mono ?_); rintro e w3 ⟨rfl, h3⟩; clear P2; obtain ⟨a0, a2, a3, a4, a5, a6, d2, d3⟩ := cells_24 h3)
    | (go_at_call 99; (with_reducible refine (P3.out _ _ h3).mono ?_); rintro e w4 ⟨rfl, h4⟩; clear P3; obtain ⟨a0, a2, a3, a4, a5, a6, d2, d3⟩ := cells_24 h4)
    | (go_at_call 99; (with_reducible refine (P4.out _ _ h4).mono ?_); rintro e w5 ⟨rfl, h5⟩; clear P4; obtain ⟨a0, a2, a3, a4, a5, a6, d2, d3⟩ := cells_24 h5)
    | (refine wpList_load_blk rfl _ _ rfl _ rfl _ _ _ h5.ent Try.underlying119 rfl (by kernel_rfl) ?_)
    | (refine wpList_store_blk rfl _ _ _ rfl _ _ rfl rfl _ _ h5.res (by kernel_rfl) rfl (by simp [Value.oneCell']) ?_))
  exact bodyPost_ret (results_cell rfl _ _ (w.heap.size + 1) _ _ _ rfl (h5.res.row _) Try.underlying119 rfl (by kernel_rfl)) rfl ⟨rfl, below_setRow h5.bel (by omega) _⟩
end Go.Proofs.Yteelconabmfnkaa

/- (table.spec).one at lines of the table. -/
namespace Go.Proofs.Yteelconabmfnkaa
open Go Go.RowKit
set_option maxHeartbeats 4000000
set_option maxRecDepth 100000
set_option linter.unusedVariables false
set_option linter.unusedSimpArgs false
theorem cells_25 {w W : World} {r : R7} (h : St w W sp25 r) : W.cell? ⟨w.heap.size, 0, none⟩ = some (.int .u8 25) ∧ W.cell? ⟨w.heap.size, 2, none⟩ = some (.int .u32 83) ∧ W.cell? ⟨w.heap.size, 3, none⟩ = some (.int .i64 (30)) ∧ W.cell? ⟨w.heap.size, 4, none⟩ = some (.int .i64 (0)) ∧ W.cell? ⟨w.heap.size, 5, none⟩ = some (.int .i64 (0)) ∧ W.cell? ⟨w.heap.size, 6, none⟩ = some (.int .u8 7) ∧ W.cell? ⟨w.heap.size + 1 + 1, 2, none⟩ = some (.int .u8 (r.frm : Nat)) ∧ W.cell? ⟨w.heap.size + 1 + 1, 3, none⟩ = some (.int .u8 (r.kind : Nat)) :=
  ⟨h.sp.cell 0, h.sp.cell 2, h.sp.cell 3, h.sp.cell 4, h.sp.cell 5, h.sp.cell 6, h.ent.cell 2, h.ent.cell 3⟩
theorem one_25 (w : World) (f n : Nat) (hf : f < 4) (hn : n < 4) : Calls Try.prog 87 #[.agg (specV sp25), .int .u8 f, .int .i64 n] w (OneP w (ONE sp25 f n)) := by
  show Calls Try.prog 87 #[.agg #[.int .u8 25, .string ⟨#[102, 109, 118]⟩, .int .u32 83, .int .i64 (30), .int .i64 (0), .int .i64 (0), .int .u8 7], .int .u8 f, .int .i64 n] w (OneP w (ONE sp25 f n))
  have P0 : Hid (∀ W r, St w W sp25 r → Calls Try.prog 99 #[.pointer (some ⟨w.heap.size + 1 + 1, 0, none⟩), .int .i64 0, .int .i64 7, .int .u32 83] W fun e W' => e = .returned (.tuple #[]) ∧ St w W' sp25 (pt0 (83) r)) := Lib.hid fun W r h => st_put0 h (83) (by decide)
  have P1 : Hid (∀ W r, St w W sp25 r → Calls Try.prog 99 #[.pointer (some ⟨w.heap.size + 1 + 1, 0, none⟩), .int .i64 25, .int .i64 2, .int .u32 (f : Nat)] W fun e W' => e = .returned (.tuple #[]) ∧ St w W' sp25 (pt25 (f) r)) := Lib.hid fun W r h => st_put25 h (f) (by omega)
  have P2 : Hid (∀ W r, St w W sp25 r → Calls Try.prog 99 #[.pointer (some ⟨w.heap.size + 1 + 1, 0, none⟩), .int .i64 27, .int .i64 5, .int .u32 30] W fun e W' => e = .returned (.tuple #[]) ∧ St w W' sp25 (pt27 (30) r)) := Lib.hid fun W r h => st_put27 h (30) (by decide)
  have P3 : Hid (∀ W r, St w W sp25 r → Calls Try.prog 99 #[.pointer (some ⟨w.heap.size + 1 + 1, 0, none⟩), .int .i64 12, .int .i64 3, .int .u32 0] W fun e W' => e = .returned (.tuple #[]) ∧ St w W' sp25 (pt12 (0) r)) := Lib.hid fun W r h => st_put12 h (0) (by decide)
  have P4 : Hid (∀ W r, St w W sp25 r → Calls Try.prog 99 #[.pointer (some ⟨w.heap.size + 1 + 1, 0, none⟩), .int .i64 20, .int .i64 5, .int .u32 0] W fun e W' => e = .returned (.tuple #[]) ∧ St w W' sp25 (pt20 (0) r)) := Lib.hid fun W r h => st_put20 h (0) (by decide)
  have h0 : St w (((w.alloc (.cells #[.int .u8 25, .string ⟨#[102, 109, 118]⟩, .int .u32 83, .int .i64 (30), .int .i64 (0), .int .i64 (0), .int .u8 7] 116)).alloc (.cells #[.int .u8 0, .int .u8 0, .int .u8 0, .int .u8 0, .int .u32 0, .int .u32 0, .int .u8 0, .string ⟨#[]⟩] 119)).alloc (.cells #[.int .u8 25, .int .u8 (f : Nat), .int .u8 0, .int .u8 0, .int .u32 0, .int .u32 0, .int .u8 7, .string ⟨#[]⟩] 119)) sp25 ⟨25, (f : Nat), 0, 0, 0, 0, 7⟩ := st_start w sp25 f
  obtain ⟨a0, a2, a3, a4, a5, a6, d2, d3⟩ := cells_25 h0
  go_enter Try.func87, Try.ntmps87
  go_wp2_with (first
    | (go_at_call 99; (with_reducible refine (P0.out _ _ h0).mono ?_); rintro e w1 ⟨rfl, h1⟩; clear P0; obtain ⟨a0, a2, a3, a4, a5, a6, d2, d3⟩ := cells_25 h1))
  go_quiet (fail)
  go_wp2_with (first
    | (go_at_call 99; (with_reducible refine (P1.out _ _ (h1.drewN _)).mono ?_); rintro e w2 ⟨rfl, h2⟩; clear P1; obtain ⟨a0, a2, a3, a4, a5, a6, d2, d3⟩ := cells_25 h2)
    | (go_at_call 99; (with_reducible refine (P2.out _ _ h2).mono ?_); rintro e w3 ⟨rfl, h3⟩; clear P2; obtain ⟨a0, a2, a3, a4, a5, a6, d2, d3⟩ := cells_25 h3)
    | (go_at_call 99; (with_reducible refine (P3.out _ _ h3).mono ?_); rintro e w4 ⟨rfl, h4⟩; clear P3; obtain ⟨a0, a2, a3, a4, a5, a6, d2, d3⟩ := cells_25 h4)
    | (go_at_call 99; (with_reducible refine (P4.out _ _ h4).mono ?_); rintro e w5 ⟨rfl, h5⟩; clear P4; obtain ⟨a0, a2, a3, a4, a5, a6, d2, d3⟩ := cells_25 h5)
    | (refine wpList_load_blk rfl _ _ rfl _ rfl _ _ _ h5.ent Try.underlying119 rfl (by kernel_rfl) ?_)
    | (refine wpList_store_blk rfl _ _ _ rfl _ _ rfl rfl _ _ h5.res (by kernel_rfl) rfl (by simp [Value.oneCell']) ?_))
  exact bodyPost_ret (results_cell rfl _ _ (w.heap.size + 1) _ _ _ rfl (h5.res.row _) Try.underlying119 rfl (by kernel_rfl)) rfl ⟨rfl, below_setRow h5.bel (by omega) _⟩
theorem cells_26 {w W : World} {r : R7} (h : St w W sp26 r) : W.cell? ⟨w.heap.size, 0, none⟩ = some (.int .u8 26) ∧ W.cell? ⟨w.heap.size, 2, none⟩ = some (.int .u32 115) ∧ W.cell? ⟨w.heap.size, 3, none⟩ = some (.int .i64 (-1)) ∧ W.cell? ⟨w.heap.size, 4, none⟩ = some (.int .i64 (1)) ∧ W.cell? ⟨w.heap.size, 5, none⟩ = some (.int .i64 (-1)) ∧ W.cell? ⟨w.heap.size, 6, none⟩ = some (.int .u8 8) ∧ W.cell? ⟨w.heap.size + 1 + 1, 2, none⟩ = some (.int .u8 (r.frm : Nat)) ∧ W.cell? ⟨w.heap.size + 1 + 1, 3, none⟩ = some (.int .u8 (r.kind : Nat)) :=
  ⟨h.sp.cell 0, h.sp.cell 2, h.sp.cell 3, h.sp.cell 4, h.sp.cell 5, h.sp.cell 6, h.ent.cell 2, h.ent.cell 3⟩
theorem one_26 (w : World) (f n : Nat) (hf : f < 4) (hn : n < 4) : Calls Try.prog 87 #[.agg (specV sp26), .int .u8 f, .int .i64 n] w (OneP w (ONE sp26 f n)) := by
  show Calls Try.prog 87 #[.agg #[.int .u8 26, .string ⟨#[99, 115, 114, 114, 119]⟩, .int .u32 115, .int .i64 (-1), .int .i64 (1), .int .i64 (-1), .int .u8 8], .int .u8 f, .int .i64 n] w (OneP w (ONE sp26 f n))
  have P0 : Hid (∀ W r, St w W sp26 r → Calls Try.prog 99 #[.pointer (some ⟨w.heap.size + 1 + 1, 0, none⟩), .int .i64 0, .int .i64 7, .int .u32 115] W fun e W' => e = .returned (.tuple #[]) ∧ St w W' sp26 (pt0 (115) r)) := Lib.hid fun W r h => st_put0 h (115) (by decide)
  have P1 : Hid (∀ W r, St w W sp26 r → Calls Try.prog 99 #[.pointer (some ⟨w.heap.size + 1 + 1, 0, none⟩), .int .i64 12, .int .i64 3, .int .u32 1] W fun e W' => e = .returned (.tuple #[]) ∧ St w W' sp26 (pt12 (1) r)) := Lib.hid fun W r h => st_put12 h (1) (by decide)
  have h0 : St w (((w.alloc (.cells #[.int .u8 26, .string ⟨#[99, 115, 114, 114, 119]⟩, .int .u32 115, .int .i64 (-1), .int .i64 (1), .int .i64 (-1), .int .u8 8] 116)).alloc (.cells #[.int .u8 0, .int .u8 0, .int .u8 0, .int .u8 0, .int .u32 0, .int .u32 0, .int .u8 0, .string ⟨#[]⟩] 119)).alloc (.cells #[.int .u8 26, .int .u8 (f : Nat), .int .u8 0, .int .u8 0, .int .u32 0, .int .u32 0, .int .u8 8, .string ⟨#[]⟩] 119)) sp26 ⟨26, (f : Nat), 0, 0, 0, 0, 8⟩ := st_start w sp26 f
  obtain ⟨a0, a2, a3, a4, a5, a6, d2, d3⟩ := cells_26 h0
  go_enter Try.func87, Try.ntmps87
  go_wp2_with (first
    | (go_at_call 99; (with_reducible refine (P0.out _ _ h0).mono ?_); rintro e w1 ⟨rfl, h1⟩; clear P0; obtain ⟨a0, a2, a3, a4, a5, a6, d2, d3⟩ := cells_26 h1))
  go_quiet (fail)
  go_wp2_with (first
    | (go_at_call 99; (with_reducible refine (P1.out _ _ (h1.drewN _)).mono ?_); rintro e w2 ⟨rfl, h2⟩; clear P1; obtain ⟨a0, a2, a3, a4, a5, a6, d2, d3⟩ := cells_26 h2)
    | (refine wpList_load_blk rfl _ _ rfl _ rfl _ _ _ h2.ent Try.underlying119 rfl (by kernel_rfl) ?_)
    | (refine wpList_store_blk rfl _ _ _ rfl _ _ rfl rfl _ _ h2.res (by kernel_rfl) rfl (by simp [Value.oneCell']) ?_))
  exact bodyPost_ret (results_cell rfl _ _ (w.heap.size + 1) _ _ _ rfl (h2.res.row _) Try.underlying119 rfl (by kernel_rfl)) rfl ⟨rfl, below_setRow h2.bel (by omega) _⟩
theorem cells_27 {w W : World} {r : R7} (h : St w W sp27 r) : W.cell? ⟨w.heap.size, 0, none⟩ = some (.int .u8 27) ∧ W.cell? ⟨w.heap.size, 2, none⟩ = some (.int .u32 115) ∧ W.cell? ⟨w.heap.size, 3, none⟩ = some (.int .i64 (-1)) ∧ W.cell? ⟨w.heap.size, 4, none⟩ = some (.int .i64 (2)) ∧ W.cell? ⟨w.heap.size, 5, none⟩ = some (.int .i64 (-1)) ∧ W.cell? ⟨w.heap.size, 6, none⟩ = some (.int .u8 8) ∧ W.cell? ⟨w.heap.size + 1 + 1, 2, none⟩ = some (.int .u8 (r.frm : Nat)) ∧ W.cell? ⟨w.heap.size + 1 + 1, 3, none⟩ = some (.int .u8 (r.kind : Nat)) :=
  ⟨h.sp.cell 0, h.sp.cell 2, h.sp.cell 3, h.sp.cell 4, h.sp.cell 5, h.sp.cell 6, h.ent.cell 2, h.ent.cell 3⟩
theorem one_27 (w : World) (f n : Nat) (hf : f < 4) (hn : n < 4) : Calls Try.prog 87 #[.agg (specV sp27), .int .u8 f, .int .i64 n] w (OneP w (ONE sp27 f n)) := by
  show Calls Try.prog 87 #[.agg #[.int .u8 27, .string ⟨#[99, 115, 114, 114, 115]⟩, .int .u32 115, .int .i64 (-1), .int .i64 (2), .int .i64 (-1), .int .u8 8], .int .u8 f, .int .i64 n] w (OneP w (ONE sp27 f n))
  have P0 : Hid (∀ W r, St w W sp27 r → Calls Try.prog 99 #[.pointer (some ⟨w.heap.size + 1 + 1, 0, none⟩), .int .i64 0, .int .i64 7, .int .u32 115] W fun e W' => e = .returned (.tuple #[]) ∧ St w W' sp27 (pt0 (115) r)) := Lib.hid fun W r h => st_put0 h (115) (by decide)
  have P1 : Hid (∀ W r, St w W sp27 r → Calls Try.prog 99 #[.pointer (some ⟨w.heap.size + 1 + 1, 0, none⟩), .int .i64 12, .int .i64 3, .int .u32 2] W fun e W' => e = .returned (.tuple #[]) ∧ St w W' sp27 (pt12 (2) r)) := Lib.hid fun W r h => st_put12 h (2) (by decide)
  have h0 : St w (((w.alloc (.cells #[.int .u8 27, .string ⟨#[99, 115, 114, 114, 115]⟩, .int .u32 115, .int .i64 (-1), .int .i64 (2), .int .i64 (-1), .int .u8 8] 116)).alloc (.cells #[.int .u8 0, .int .u8 0, .int .u8 0, .int .u8 0, .int .u32 0, .int .u32 0, .int .u8 0, .string ⟨#[]⟩] 119)).alloc (.cells #[.int .u8 27, .int .u8 (f : Nat), .int .u8 0, .int .u8 0, .int .u32 0, .int .u32 0, .int .u8 8, .string ⟨#[]⟩] 119)) sp27 ⟨27, (f : Nat), 0, 0, 0, 0, 8⟩ := st_start w sp27 f
  obtain ⟨a0, a2, a3, a4, a5, a6, d2, d3⟩ := cells_27 h0
  go_enter Try.func87, Try.ntmps87
  go_wp2_with (first
    | (go_at_call 99; (with_reducible refine (P0.out _ _ h0).mono ?_); rintro e w1 ⟨rfl, h1⟩; clear P0; obtain ⟨a0, a2, a3, a4, a5, a6, d2, d3⟩ := cells_27 h1))
  go_quiet (fail)
  go_wp2_with (first
    | (go_at_call 99; (with_reducible refine (P1.out _ _ (h1.drewN _)).mono ?_); rintro e w2 ⟨rfl, h2⟩; clear P1; obtain ⟨a0, a2, a3, a4, a5, a6, d2, d3⟩ := cells_27 h2)
    | (refine wpList_load_blk rfl _ _ rfl _ rfl _ _ _ h2.ent Try.underlying119 rfl (by kernel_rfl) ?_)
    | (refine wpList_store_blk rfl _ _ _ rfl _ _ rfl rfl _ _ h2.res (by kernel_rfl) rfl (by simp [Value.oneCell']) ?_))
  exact bodyPost_ret (results_cell rfl _ _ (w.heap.size + 1) _ _ _ rfl (h2.res.row _) Try.underlying119 rfl (by kernel_rfl)) rfl ⟨rfl, below_setRow h2.bel (by omega) _⟩
theorem cells_28 {w W : World} {r : R7} (h : St w W sp28 r) : W.cell? ⟨w.heap.size, 0, none⟩ = some (.int .u8 28) ∧ W.cell? ⟨w.heap.size, 2, none⟩ = some (.int .u32 115) ∧ W.cell? ⟨w.heap.size, 3, none⟩ = some (.int .i64 (-1)) ∧ W.cell? ⟨w.heap.size, 4, none⟩ = some (.int .i64 (3)) ∧ W.cell? ⟨w.heap.size, 5, none⟩ = some (.int .i64 (-1)) ∧ W.cell? ⟨w.heap.size, 6, none⟩ = some (.int .u8 8) ∧ W.cell? ⟨w.heap.size + 1 + 1, 2, none⟩ = some (.int .u8 (r.frm : Nat)) ∧ W.cell? ⟨w.heap.size + 1 + 1, 3, none⟩ = some (.int .u8 (r.kind : Nat)) :=
  ⟨h.sp.cell 0, h.sp.cell 2, h.sp.cell 3, h.sp.cell 4, h.sp.cell 5, h.sp.cell 6, h.ent.cell 2, h.ent.cell 3⟩
theorem one_28 (w : World) (f n : Nat) (hf : f < 4) (hn : n < 4) : Calls Try.prog 87 #[.agg (specV sp28), .int .u8 f, .int .i64 n] w (OneP w (ONE sp28 f n)) := by
  show Calls Try.prog 87 #[.agg #[.int .u8 28, .string ⟨#[99, 115, 114, 114, 99]⟩, .int .u32 115, .int .i64 (-1), .int .i64 (3), .int .i64 (-1), .int .u8 8], .int .u8 f, .int .i64 n] w (OneP w (ONE sp28 f n))
  have P0 : Hid (∀ W r, St w W sp28 r → Calls Try.prog 99 #[.pointer (some ⟨w.heap.size + 1 + 1, 0, none⟩), .int .i64 0, .int .i64 7, .int .u32 115] W fun e W' => e = .returned (.tuple #[]) ∧ St w W' sp28 (pt0 (115) r)) := Lib.hid fun W r h => st_put0 h (115) (by decide)
  have P1 : Hid (∀ W r, St w W sp28 r → Calls Try.prog 99 #[.pointer (some ⟨w.heap.size + 1 + 1, 0, none⟩), .int .i64 12, .int .i64 3, .int .u32 3] W fun e W' => e = .returned (.tuple #[]) ∧ St w W' sp28 (pt12 (3) r)) := Lib.hid fun W r h => st_put12 h (3) (by decide)
  have h0 : St w (((w.alloc (.cells #[.int .u8 28, .string ⟨#[99, 115, 114, 114, 99]⟩, .int .u32 115, .int .i64 (-1), .int .i64 (3), .int .i64 (-1), .int .u8 8] 116)).alloc (.cells #[.int .u8 0, .int .u8 0, .int .u8 0, .int .u8 0, .int .u32 0, .int .u32 0, .int .u8 0, .string ⟨#[]⟩] 119)).alloc (.cells #[.int .u8 28, .int .u8 (f : Nat), .int .u8 0, .int .u8 0, .int .u32 0, .int .u32 0, .int .u8 8, .string ⟨#[]⟩] 119)) sp28 ⟨28, (f : Nat), 0, 0, 0, 0, 8⟩ := st_start w sp28 f
  obtain ⟨a0, a2, a3, a4, a5, a6, d2, d3⟩ := cells_28 h0
  go_enter Try.func87, Try.ntmps87
  go_wp2_with (first
    | (go_at_call 99; (with_reducible refine (P0.out _ _ h0).mono ?_); rintro e w1 ⟨rfl, h1⟩; clear P0; obtain ⟨a0, a2, a3, a4, a5, a6, d2, d3⟩ := cells_28 h1))
  go_quiet (fail)
  go_wp2_with (first
    | (go_at_call 99; (with_reducible refine (P1.out _ _ (h1.drewN _)).mono ?_); rintro e w2 ⟨rfl, h2⟩; clear P1; obtain ⟨a0, a2, a3, a4, a5, a6, d2, d3⟩ := cells_28 h2)
    | (refine wpList_load_blk rfl _ _ rfl _ rfl _ _ _ h2.ent Try.underlying119 rfl (by kernel_rfl) ?_)
    | (refine wpList_store_blk rfl _ _ _ rfl _ _ rfl rfl _ _ h2.res (by kernel_rfl) rfl (by simp [Value.oneCell']) ?_))
  exact bodyPost_ret (results_cell rfl _ _ (w.heap.size + 1) _ _ _ rfl (h2.res.row _) Try.underlying119 rfl (by kernel_rfl)) rfl ⟨rfl, below_setRow h2.bel (by omega) _⟩
theorem cells_29 {w W : World} {r : R7} (h : St w W sp29 r) : W.cell? ⟨w.heap.size, 0, none⟩ = some (.int .u8 29) ∧ W.cell? ⟨w.heap.size, 2, none⟩ = some (.int .u32 115) ∧ W.cell? ⟨w.heap.size, 3, none⟩ = some (.int .i64 (-1)) ∧ W.cell? ⟨w.heap.size, 4, none⟩ = some (.int .i64 (5)) ∧ W.cell? ⟨w.heap.size, 5, none⟩ = some (.int .i64 (-1)) ∧ W.cell? ⟨w.heap.size, 6, none⟩ = some (.int .u8 9) ∧ W.cell? ⟨w.heap.size + 1 + 1, 2, none⟩ = some (.int .u8 (r.frm : Nat)) ∧ W.cell? ⟨w.heap.size + 1 + 1, 3, none⟩ = some (.int .u8 (r.kind : Nat)) :=
  ⟨h.sp.cell 0, h.sp.cell 2, h.sp.cell 3, h.sp.cell 4, h.sp.cell 5, h.sp.cell 6, h.ent.cell 2, h.ent.cell 3⟩
theorem one_29 (w : World) (f n : Nat) (hf : f < 4) (hn : n < 4) : Calls Try.prog 87 #[.agg (specV sp29), .int .u8 f, .int .i64 n] w (OneP w (ONE sp29 f n)) := by
  show Calls Try.prog 87 #[.agg #[.int .u8 29, .string ⟨#[99, 115, 114, 114, 119, 105]⟩, .int .u32 115, .int .i64 (-1), .int .i64 (5), .int .i64 (-1), .int .u8 9], .int .u8 f, .int .i64 n] w (OneP w (ONE sp29 f n))
  have P0 : Hid (∀ W r, St w W sp29 r → Calls Try.prog 99 #[.pointer (some ⟨w.heap.size + 1 + 1, 0, none⟩), .int .i64 0, .int .i64 7, .int .u32 115] W fun e W' => e = .returned (.tuple #[]) ∧ St w W' sp29 (pt0 (115) r)) := Lib.hid fun W r h => st_put0 h (115) (by decide)
  have P1 : Hid (∀ W r, St w W sp29 r → Calls Try.prog 99 #[.pointer (some ⟨w.heap.size + 1 + 1, 0, none⟩), .int .i64 12, .int .i64 3, .int .u32 5] W fun e W' => e = .returned (.tuple #[]) ∧ St w W' sp29 (pt12 (5) r)) := Lib.hid fun W r h => st_put12 h (5) (by decide)
  have h0 : St w (((w.alloc (.cells #[.int .u8 29, .string ⟨#[99, 115, 114, 114, 119, 105]⟩, .int .u32 115, .int .i64 (-1), .int .i64 (5), .int .i64 (-1), .int .u8 9] 116)).alloc (.cells #[.int .u8 0, .int .u8 0, .int .u8 0, .int .u8 0, .int .u32 0, .int .u32 0, .int .u8 0, .string ⟨#[]⟩] 119)).alloc (.cells #[.int .u8 29, .int .u8 (f : Nat), .int .u8 0, .int .u8 0, .int .u32 0, .int .u32 0, .int .u8 9, .string ⟨#[]⟩] 119)) sp29 ⟨29, (f : Nat), 0, 0, 0, 0, 9⟩ := st_start w sp29 f
  obtain ⟨a0, a2, a3, a4, a5, a6, d2, d3⟩ := cells_29 h0
  go_enter Try.func87, Try.ntmps87
  go_wp2_with (first
    | (go_at_call 99; (with_reducible refine (P0.out _ _ h0).mono ?_); rintro e w1 ⟨rfl, h1⟩; clear P0; obtain ⟨a0, a2, a3, a4, a5, a6, d2, d3⟩ := cells_29 h1))
  go_quiet (fail)
  go_wp2_with (first
    | (go_at_call 99; (with_reducible refine (P1.out _ _ (h1.drewN _)).mono ?_); rintro e w2 ⟨rfl, h2⟩; clear P1; obtain ⟨a0, a2, a3, a4, a5, a6, d2, d3⟩ := cells_29 h2)
    | (refine wpList_load_blk rfl _ _ rfl _ rfl _ _ _ h2.ent Try.underlying119 rfl (by kernel_rfl) ?_)
    | (refine wpList_store_blk rfl _ _ _ rfl _ _ rfl rfl _ _ h2.res (by kernel_rfl) rfl (by simp [Value.oneCell']) ?_))
  exact bodyPost_ret (results_cell rfl _ _ (w.heap.size + 1) _ _ _ rfl (h2.res.row _) Try.underlying119 rfl (by kernel_rfl)) rfl ⟨rfl, below_setRow h2.bel (by omega) _⟩
theorem cells_30 {w W : World} {r : R7} (h : St w W sp30 r) : W.cell? ⟨w.heap.size, 0, none⟩ = some (.int .u8 30) ∧ W.cell? ⟨w.heap.size, 2, none⟩ = some (.int .u32 115) ∧ W.cell? ⟨w.heap.size, 3, none⟩ = some (.int .i64 (-1)) ∧ W.cell? ⟨w.heap.size, 4, none⟩ = some (.int .i64 (6)) ∧ W.cell? ⟨w.heap.size, 5, none⟩ = some (.int .i64 (-1)) ∧ W.cell? ⟨w.heap.size, 6, none⟩ = some (.int .u8 9) ∧ W.cell? ⟨w.heap.size + 1 + 1, 2, none⟩ = some (.int .u8 (r.frm : Nat)) ∧ W.cell? ⟨w.heap.size + 1 + 1, 3, none⟩ = some (.int .u8 (r.kind : Nat)) :=
  ⟨h.sp.cell 0, h.sp.cell 2, h.sp.cell 3, h.sp.cell 4, h.sp.cell 5, h.sp.cell 6, h.ent.cell 2, h.ent.cell 3⟩
theorem one_30 (w : World) (f n : Nat) (hf : f < 4) (hn : n < 4) : Calls Try.prog 87 #[.agg (specV sp30), .int .u8 f, .int .i64 n] w (OneP w (ONE sp30 f n)) := by
  show Calls Try.prog 87 #[.agg #[.int .u8 30, .string ⟨#[99, 115, 114, 114, 115, 105]⟩, .int .u32 115, .int .i64 (-1), .int .i64 (6), .int .i64 (-1), .int .u8 9], .int .u8 f, .int .i64 n] w (OneP w (ONE sp30 f n))
  have P0 : Hid (∀ W r, St w W sp30 r → Calls Try.prog 99 #[.pointer (some ⟨w.heap.size + 1 + 1, 0, none⟩), .int .i64 0, .int .i64 7, .int .u32 115] W fun e W' => e = .returned (.tuple #[]) ∧ St w W' sp30 (pt0 (115) r)) := Lib.hid fun W r h => st_put0 h (115) (by decide)
  have P1 : Hid (∀ W r, St w W sp30 r → Calls Try.prog 99 #[.pointer (some ⟨w.heap.size + 1 + 1, 0, none⟩), .int .i64 12, .int .i64 3, .int .u32 6] W fun e W' => e = .returned (.tuple #[]) ∧ St w W' sp30 (pt12 (6) r)) := Lib.hid fun W r h => st_put12 h (6) (by decide)
  have h0 : St w (((w.alloc (.cells #[.int .u8 30, .string ⟨#[99, 115, 114, 114, 115, 105]⟩, .int .u32 115, .int .i64 (-1), .int .i64 (6), .int .i64 (-1), .int .u8 9] 116)).alloc (.cells #[.int .u8 0, .int .u8 0, .int .u8 0, .int .u8 0, .int .u32 0, .int .u32 0, .int .u8 0, .string ⟨#[]⟩] 119)).alloc (.cells #[.int .u8 30, .int .u8 (f : Nat), .int .u8 0, .int .u8 0, .int .u32 0, .int .u32 0, .int .u8 9, .string ⟨#[]⟩] 119)) sp30 ⟨30, (f : Nat), 0, 0, 0, 0, 9⟩ := st_start w sp30 f
  obtain ⟨a0, a2, a3, a4, a5, a6, d2, d3⟩ := cells_30 h0
  go_enter Try.func87, Try.ntmps87
  go_wp2_with (first
    | (go_at_call 99; (with_reducible refine (P0.out _ _ h0).mono ?_); rintro e w1 ⟨rfl, h1⟩; clear P0; obtain ⟨a0, a2, a3, a4, a5, a6, d2, d3⟩ := cells_30 h1))
  go_quiet (fail)
  go_wp2_with (first
    | (go_at_call 99; (with_reducible refine (P1.out _ _ (h1.drewN _)).mono ?_); rintro e w2 ⟨rfl, h2⟩; clear P1; obtain ⟨a0, a2, a3, a4, a5, a6, d2, d3⟩ := cells_30 h2)
    | (refine wpList_load_blk rfl _ _ rfl _ rfl _ _ _ h2.ent Try.underlying119 rfl (by kernel_rfl) ?_)
    | (refine wpList_store_blk rfl _ _ _ rfl _ _ rfl rfl _ _ h2.res (by kernel_rfl) rfl (by simp [Value.oneCell']) ?_))
  exact bodyPost_ret (results_cell rfl _ _ (w.heap.size + 1) _ _ _ rfl (h2.res.row _) Try.underlying119 rfl (by kernel_rfl)) rfl ⟨rfl, below_setRow h2.bel (by omega) _⟩
theorem cells_31 {w W : World} {r : R7} (h : St w W sp31 r) : W.cell? ⟨w.heap.size, 0, none⟩ = some (.int .u8 31) ∧ W.cell? ⟨w.heap.size, 2, none⟩ = some (.int .u32 115) ∧ W.cell? ⟨w.heap.size, 3, none⟩ = some (.int .i64 (-1)) ∧ W.cell? ⟨w.heap.size, 4, none⟩ = some (.int .i64 (7)) ∧ W.cell? ⟨w.heap.size, 5, none⟩ = some (.int .i64 (-1)) ∧ W.cell? ⟨w.heap.size, 6, none⟩ = some (.int .u8 9) ∧ W.cell? ⟨w.heap.size + 1 + 1, 2, none⟩ = some (.int .u8 (r.frm : Nat)) ∧ W.cell? ⟨w.heap.size + 1 + 1, 3, none⟩ = some (.int .u8 (r.kind : Nat)) :=
  ⟨h.sp.cell 0, h.sp.cell 2, h.sp.cell 3, h.sp.cell 4, h.sp.cell 5, h.sp.cell 6, h.ent.cell 2, h.ent.cell 3⟩
theorem one_31 (w : World) (f n : Nat) (hf : f < 4) (hn : n < 4) : Calls Try.prog 87 #[.agg (specV sp31), .int .u8 f, .int .i64 n] w (OneP w (ONE sp31 f n)) := by
  show Calls Try.prog 87 #[.agg #[.int .u8 31, .string ⟨#[99, 115, 114, 114, 99, 105]⟩, .int .u32 115, .int .i64 (-1), .int .i64 (7), .int .i64 (-1), .int .u8 9], .int .u8 f, .int .i64 n] w (OneP w (ONE sp31 f n))
  have P0 : Hid (∀ W r, St w W sp31 r → Calls Try.prog 99 #[.pointer (some ⟨w.heap.size + 1 + 1, 0, none⟩), .int .i64 0, .int .i64 7, .int .u32 115] W fun e W' => e = .returned (.tuple #[]) ∧ St w W' sp31 (pt0 (115) r)) := Lib.hid fun W r h => st_put0 h (115) (by decide)
  have P1 : Hid (∀ W r, St w W sp31 r → Calls Try.prog 99 #[.pointer (some ⟨w.heap.size + 1 + 1, 0, none⟩), .int .i64 12, .int .i64 3, .int .u32 7] W fun e W' => e = .returned (.tuple #[]) ∧ St w W' sp31 (pt12 (7) r)) := Lib.hid fun W r h => st_put12 h (7) (by decide)
  have h0 : St w (((w.alloc (.cells #[.int .u8 31, .string ⟨#[99, 115, 114, 114, 99, 105]⟩, .int .u32 115, .int .i64 (-1), .int .i64 (7), .int .i64 (-1), .int .u8 9] 116)).alloc (.cells #[.int .u8 0, .int .u8 0, .int .u8 0, .int .u8 0, .int .u32 0, .int .u32 0, .int .u8 0, .string ⟨#[]⟩] 119)).alloc (.cells #[.int .u8 31, .int .u8 (f : Nat), .int .u8 0, .int .u8 0, .int .u32 0, .int .u32 0, .int .u8 9, .string ⟨#[]⟩] 119)) sp31 ⟨31, (f : Nat), 0, 0, 0, 0, 9⟩ := st_start w sp31 f
  obtain ⟨a0, a2, a3, a4, a5, a6, d2, d3⟩ := cells_31 h0
  go_enter Try.func87, Try.ntmps87
  go_wp2_with (first
    | (go_at_call 99; (with_reducible refine (P0.out _ _ h0).mono ?_); rintro e w1 ⟨rfl, h1⟩; clear P0; obtain ⟨a0, a2, a3, a4, a5, a6, d2, d3⟩ := cells_31 h1))
  go_quiet (fail)
  go_wp2_with (first
    | (go_at_call 99; (with_reducible refine (P1.out _ _ (h1.drewN _)).mono ?_); rintro e w2 ⟨rfl, h2⟩; clear P1; obtain ⟨a0, a2, a3, a4, a5, a6, d2, d3⟩ := cells_31 h2)
    | (refine wpList_load_blk rfl _ _ rfl _ rfl _ _ _ h2.ent Try.underlying119 rfl (by kernel_rfl) ?_)
    | (refine wpList_store_blk rfl _ _ _ rfl _ _ rfl rfl _ _ h2.res (by kernel_rfl) rfl (by simp [Value.oneCell']) ?_))
  exact bodyPost_ret (results_cell rfl _ _ (w.heap.size + 1) _ _ _ rfl (h2.res.row _) Try.underlying119 rfl (by kernel_rfl)) rfl ⟨rfl, below_setRow h2.bel (by omega) _⟩
end Go.Proofs.Yteelconabmfnkaa
