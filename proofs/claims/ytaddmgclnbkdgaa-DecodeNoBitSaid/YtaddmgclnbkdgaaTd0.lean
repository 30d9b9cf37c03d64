/- (table.spec).one at lines of the table. -/
import Derived.Test.YtaddmgclnbkdgaaTc
namespace Go.Proofs.Ytaddmgclnbkdgaa
open Go Go.RowKit
set_option maxHeartbeats 4000000
set_option maxRecDepth 100000
set_option linter.unusedVariables false
set_option linter.unusedSimpArgs false
theorem cells_1 {w W : World} {r : R7} (h : St w W sp1 r) : W.cell? ⟨w.heap.size, 0, none⟩ = some (.int .u8 1) ∧ W.cell? ⟨w.heap.size, 2, none⟩ = some (.int .u32 7) ∧ W.cell? ⟨w.heap.size, 3, none⟩ = some (.int .i64 (-1)) ∧ W.cell? ⟨w.heap.size, 4, none⟩ = some (.int .i64 (0)) ∧ W.cell? ⟨w.heap.size, 5, none⟩ = some (.int .i64 (-1)) ∧ W.cell? ⟨w.heap.size, 6, none⟩ = some (.int .u8 1) ∧ W.cell? ⟨w.heap.size + 1 + 1, 2, none⟩ = some (.int .u8 (r.frm : Nat)) ∧ W.cell? ⟨w.heap.size + 1 + 1, 3, none⟩ = some (.int .u8 (r.kind : Nat)) :=
  ⟨h.sp.cell 0, h.sp.cell 2, h.sp.cell 3, h.sp.cell 4, h.sp.cell 5, h.sp.cell 6, h.ent.cell 2, h.ent.cell 3⟩
theorem one_1 (w : World) (f n : Nat) (hf : f < 4) (hn : n < 4) : Calls Try.prog 87 #[.agg (specV sp1), .int .u8 f, .int .i64 n] w (OneP w (ONE sp1 f n)) := by
  show Calls Try.prog 87 #[.agg #[.int .u8 1, .string ⟨#[102, 108]⟩, .int .u32 7, .int .i64 (-1), .int .i64 (0), .int .i64 (-1), .int .u8 1], .int .u8 f, .int .i64 n] w (OneP w (ONE sp1 f n))
  rcases (by omega : f = 0 ∨ f = 1 ∨ f = 2 ∨ f = 3) with rfl | rfl | rfl | rfl
  · skip
    have P0 : Hid (∀ W r, St w W sp1 r → Calls Try.prog 99 #[.pointer (some ⟨w.heap.size + 1 + 1, 0, none⟩), .int .i64 0, .int .i64 7, .int .u32 7] W fun e W' => e = .returned (.tuple #[]) ∧ St w W' sp1 (pt0 (7) r)) := Lib.hid fun W r h => st_put0 h (7) (by decide)
    have P1 : Hid (∀ W r, St w W sp1 r → Calls Try.prog 99 #[.pointer (some ⟨w.heap.size + 1 + 1, 0, none⟩), .int .i64 12, .int .i64 3, .int .u32 2] W fun e W' => e = .returned (.tuple #[]) ∧ St w W' sp1 (pt12 (2) r)) := Lib.hid fun W r h => st_put12 h (2) (by decide)
    have h0 : St w (((w.alloc (.cells #[.int .u8 1, .string ⟨#[102, 108]⟩, .int .u32 7, .int .i64 (-1), .int .i64 (0), .int .i64 (-1), .int .u8 1] 116)).alloc (.cells #[.int .u8 0, .int .u8 0, .int .u8 0, .int .u8 0, .int .u32 0, .int .u32 0, .int .u8 0, .string ⟨#[]⟩] 119)).alloc (.cells #[.int .u8 1, .int .u8 0, .int .u8 0, .int .u8 0, .int .u32 0, .int .u32 0, .int .u8 1, .string ⟨#[]⟩] 119)) sp1 ⟨1, 0, 0, 0, 0, 0, 1⟩ := st_start w sp1 0
    obtain ⟨a0, a2, a3, a4, a5, a6, d2, d3⟩ := cells_1 h0
    have hix : ∀ w, (Instr.index 146 (.agg #[.int .u8 2, .int .u8 3, .int .u8 1, .int .u8 4]) (.int .u8 0)).run Try.prog w = .ok (.int .u8 2) w := fun w => by kernel_rfl
    go_enter Try.func87, Try.ntmps87
    go_wp2_with (first
      | (go_at_call 99; (with_reducible refine (P0.out _ _ h0).mono ?_); rintro e w1 ⟨rfl, h1⟩; clear P0; obtain ⟨a0, a2, a3, a4, a5, a6, d2, d3⟩ := cells_1 h1))
    go_quiet (fail)
    go_wp2_with (first
      | (go_at_call 99; (with_reducible refine (P1.out _ _ (h1.drewN _)).mono ?_); rintro e w2 ⟨rfl, h2⟩; clear P1; obtain ⟨a0, a2, a3, a4, a5, a6, d2, d3⟩ := cells_1 h2)
      | (refine wpList_load_blk rfl _ _ rfl _ rfl _ _ _ h2.ent Try.underlying119 rfl (by kernel_rfl) ?_)
      | (refine wpList_store_blk rfl _ _ _ rfl _ _ rfl rfl _ _ h2.res (by kernel_rfl) rfl (by simp [Value.oneCell']) ?_))
    exact bodyPost_ret (results_cell rfl _ _ (w.heap.size + 1) _ _ _ rfl (h2.res.row _) Try.underlying119 rfl (by kernel_rfl)) rfl ⟨rfl, below_setRow h2.bel (by omega) _⟩
  · skip
    have P0 : Hid (∀ W r, St w W sp1 r → Calls Try.prog 99 #[.pointer (some ⟨w.heap.size + 1 + 1, 0, none⟩), .int .i64 0, .int .i64 7, .int .u32 7] W fun e W' => e = .returned (.tuple #[]) ∧ St w W' sp1 (pt0 (7) r)) := Lib.hid fun W r h => st_put0 h (7) (by decide)
    have P1 : Hid (∀ W r, St w W sp1 r → Calls Try.prog 99 #[.pointer (some ⟨w.heap.size + 1 + 1, 0, none⟩), .int .i64 12, .int .i64 3, .int .u32 3] W fun e W' => e = .returned (.tuple #[]) ∧ St w W' sp1 (pt12 (3) r)) := Lib.hid fun W r h => st_put12 h (3) (by decide)
    have h0 : St w (((w.alloc (.cells #[.int .u8 1, .string ⟨#[102, 108]⟩, .int .u32 7, .int .i64 (-1), .int .i64 (0), .int .i64 (-1), .int .u8 1] 116)).alloc (.cells #[.int .u8 0, .int .u8 0, .int .u8 0, .int .u8 0, .int .u32 0, .int .u32 0, .int .u8 0, .string ⟨#[]⟩] 119)).alloc (.cells #[.int .u8 1, .int .u8 1, .int .u8 0, .int .u8 0, .int .u32 0, .int .u32 0, .int .u8 1, .string ⟨#[]⟩] 119)) sp1 ⟨1, 1, 0, 0, 0, 0, 1⟩ := st_start w sp1 1
    obtain ⟨a0, a2, a3, a4, a5, a6, d2, d3⟩ := cells_1 h0
    have hix : ∀ w, (Instr.index 146 (.agg #[.int .u8 2, .int .u8 3, .int .u8 1, .int .u8 4]) (.int .u8 1)).run Try.prog w = .ok (.int .u8 3) w := fun w => by kernel_rfl
    go_enter Try.func87, Try.ntmps87
    go_wp2_with (first
      | (go_at_call 99; (with_reducible refine (P0.out _ _ h0).mono ?_); rintro e w1 ⟨rfl, h1⟩; clear P0; obtain ⟨a0, a2, a3, a4, a5, a6, d2, d3⟩ := cells_1 h1))
    go_quiet (fail)
    go_wp2_with (first
      | (go_at_call 99; (with_reducible refine (P1.out _ _ (h1.drewN _)).mono ?_); rintro e w2 ⟨rfl, h2⟩; clear P1; obtain ⟨a0, a2, a3, a4, a5, a6, d2, d3⟩ := cells_1 h2)
      | (refine wpList_load_blk rfl _ _ rfl _ rfl _ _ _ h2.ent Try.underlying119 rfl (by kernel_rfl) ?_)
      | (refine wpList_store_blk rfl _ _ _ rfl _ _ rfl rfl _ _ h2.res (by kernel_rfl) rfl (by simp [Value.oneCell']) ?_))
    exact bodyPost_ret (results_cell rfl _ _ (w.heap.size + 1) _ _ _ rfl (h2.res.row _) Try.underlying119 rfl (by kernel_rfl)) rfl ⟨rfl, below_setRow h2.bel (by omega) _⟩
  · skip
    have P0 : Hid (∀ W r, St w W sp1 r → Calls Try.prog 99 #[.pointer (some ⟨w.heap.size + 1 + 1, 0, none⟩), .int .i64 0, .int .i64 7, .int .u32 7] W fun e W' => e = .returned (.tuple #[]) ∧ St w W' sp1 (pt0 (7) r)) := Lib.hid fun W r h => st_put0 h (7) (by decide)
    have P1 : Hid (∀ W r, St w W sp1 r → Calls Try.prog 99 #[.pointer (some ⟨w.heap.size + 1 + 1, 0, none⟩), .int .i64 12, .int .i64 3, .int .u32 1] W fun e W' => e = .returned (.tuple #[]) ∧ St w W' sp1 (pt12 (1) r)) := Lib.hid fun W r h => st_put12 h (1) (by decide)
    have h0 : St w (((w.alloc (.cells #[.int .u8 1, .string ⟨#[102, 108]⟩, .int .u32 7, .int .i64 (-1), .int .i64 (0), .int .i64 (-1), .int .u8 1] 116)).alloc (.cells #[.int .u8 0, .int .u8 0, .int .u8 0, .int .u8 0, .int .u32 0, .int .u32 0, .int .u8 0, .string ⟨#[]⟩] 119)).alloc (.cells #[.int .u8 1, .int .u8 2, .int .u8 0, .int .u8 0, .int .u32 0, .int .u32 0, .int .u8 1, .string ⟨#[]⟩] 119)) sp1 ⟨1, 2, 0, 0, 0, 0, 1⟩ := st_start w sp1 2
    obtain ⟨a0, a2, a3, a4, a5, a6, d2, d3⟩ := cells_1 h0
    have hix : ∀ w, (Instr.index 146 (.agg #[.int .u8 2, .int .u8 3, .int .u8 1, .int .u8 4]) (.int .u8 2)).run Try.prog w = .ok (.int .u8 1) w := fun w => by kernel_rfl
    go_enter Try.func87, Try.ntmps87
    go_wp2_with (first
      | (go_at_call 99; (with_reducible refine (P0.out _ _ h0).mono ?_); rintro e w1 ⟨rfl, h1⟩; clear P0; obtain ⟨a0, a2, a3, a4, a5, a6, d2, d3⟩ := cells_1 h1))
    go_quiet (fail)
    go_wp2_with (first
      | (go_at_call 99; (with_reducible refine (P1.out _ _ (h1.drewN _)).mono ?_); rintro e w2 ⟨rfl, h2⟩; clear P1; obtain ⟨a0, a2, a3, a4, a5, a6, d2, d3⟩ := cells_1 h2)
      | (refine wpList_load_blk rfl _ _ rfl _ rfl _ _ _ h2.ent Try.underlying119 rfl (by kernel_rfl) ?_)
      | (refine wpList_store_blk rfl _ _ _ rfl _ _ rfl rfl _ _ h2.res (by kernel_rfl) rfl (by simp [Value.oneCell']) ?_))
    exact bodyPost_ret (results_cell rfl _ _ (w.heap.size + 1) _ _ _ rfl (h2.res.row _) Try.underlying119 rfl (by kernel_rfl)) rfl ⟨rfl, below_setRow h2.bel (by omega) _⟩
  · skip
    have P0 : Hid (∀ W r, St w W sp1 r → Calls Try.prog 99 #[.pointer (some ⟨w.heap.size + 1 + 1, 0, none⟩), .int .i64 0, .int .i64 7, .int .u32 7] W fun e W' => e = .returned (.tuple #[]) ∧ St w W' sp1 (pt0 (7) r)) := Lib.hid fun W r h => st_put0 h (7) (by decide)
    have P1 : Hid (∀ W r, St w W sp1 r → Calls Try.prog 99 #[.pointer (some ⟨w.heap.size + 1 + 1, 0, none⟩), .int .i64 12, .int .i64 3, .int .u32 4] W fun e W' => e = .returned (.tuple #[]) ∧ St w W' sp1 (pt12 (4) r)) := Lib.hid fun W r h => st_put12 h (4) (by decide)
    have h0 : St w (((w.alloc (.cells #[.int .u8 1, .string ⟨#[102, 108]⟩, .int .u32 7, .int .i64 (-1), .int .i64 (0), .int .i64 (-1), .int .u8 1] 116)).alloc (.cells #[.int .u8 0, .int .u8 0, .int .u8 0, .int .u8 0, .int .u32 0, .int .u32 0, .int .u8 0, .string ⟨#[]⟩] 119)).alloc (.cells #[.int .u8 1, .int .u8 3, .int .u8 0, .int .u8 0, .int .u32 0, .int .u32 0, .int .u8 1, .string ⟨#[]⟩] 119)) sp1 ⟨1, 3, 0, 0, 0, 0, 1⟩ := st_start w sp1 3
    obtain ⟨a0, a2, a3, a4, a5, a6, d2, d3⟩ := cells_1 h0
    have hix : ∀ w, (Instr.index 146 (.agg #[.int .u8 2, .int .u8 3, .int .u8 1, .int .u8 4]) (.int .u8 3)).run Try.prog w = .ok (.int .u8 4) w := fun w => by kernel_rfl
    go_enter Try.func87, Try.ntmps87
    go_wp2_with (first
      | (go_at_call 99; (with_reducible refine (P0.out _ _ h0).mono ?_); rintro e w1 ⟨rfl, h1⟩; clear P0; obtain ⟨a0, a2, a3, a4, a5, a6, d2, d3⟩ := cells_1 h1))
    go_quiet (fail)
    go_wp2_with (first
      | (go_at_call 99; (with_reducible refine (P1.out _ _ (h1.drewN _)).mono ?_); rintro e w2 ⟨rfl, h2⟩; clear P1; obtain ⟨a0, a2, a3, a4, a5, a6, d2, d3⟩ := cells_1 h2)
      | (refine wpList_load_blk rfl _ _ rfl _ rfl _ _ _ h2.ent Try.underlying119 rfl (by kernel_rfl) ?_)
      | (refine wpList_store_blk rfl _ _ _ rfl _ _ rfl rfl _ _ h2.res (by kernel_rfl) rfl (by simp [Value.oneCell']) ?_))
    exact bodyPost_ret (results_cell rfl _ _ (w.heap.size + 1) _ _ _ rfl (h2.res.row _) Try.underlying119 rfl (by kernel_rfl)) rfl ⟨rfl, below_setRow h2.bel (by omega) _⟩
theorem cells_2 {w W : World} {r : R7} (h : St w W sp2 r) : W.cell? ⟨w.heap.size, 0, none⟩ = some (.int .u8 2) ∧ W.cell? ⟨w.heap.size, 2, none⟩ = some (.int .u32 39) ∧ W.cell? ⟨w.heap.size, 3, none⟩ = some (.int .i64 (-1)) ∧ W.cell? ⟨w.heap.size, 4, none⟩ = some (.int .i64 (0)) ∧ W.cell? ⟨w.heap.size, 5, none⟩ = some (.int .i64 (-1)) ∧ W.cell? ⟨w.heap.size, 6, none⟩ = some (.int .u8 2) ∧ W.cell? ⟨w.heap.size + 1 + 1, 2, none⟩ = some (.int .u8 (r.frm : Nat)) ∧ W.cell? ⟨w.heap.size + 1 + 1, 3, none⟩ = some (.int .u8 (r.kind : Nat)) :=
  ⟨h.sp.cell 0, h.sp.cell 2, h.sp.cell 3, h.sp.cell 4, h.sp.cell 5, h.sp.cell 6, h.ent.cell 2, h.ent.cell 3⟩
theorem one_2 (w : World) (f n : Nat) (hf : f < 4) (hn : n < 4) : Calls Try.prog 87 #[.agg (specV sp2), .int .u8 f, .int .i64 n] w (OneP w (ONE sp2 f n)) := by
  show Calls Try.prog 87 #[.agg #[.int .u8 2, .string ⟨#[102, 115]⟩, .int .u32 39, .int .i64 (-1), .int .i64 (0), .int .i64 (-1), .int .u8 2], .int .u8 f, .int .i64 n] w (OneP w (ONE sp2 f n))
  rcases (by omega : f = 0 ∨ f = 1 ∨ f = 2 ∨ f = 3) with rfl | rfl | rfl | rfl
  · skip
    have P0 : Hid (∀ W r, St w W sp2 r → Calls Try.prog 99 #[.pointer (some ⟨w.heap.size + 1 + 1, 0, none⟩), .int .i64 0, .int .i64 7, .int .u32 39] W fun e W' => e = .returned (.tuple #[]) ∧ St w W' sp2 (pt0 (39) r)) := Lib.hid fun W r h => st_put0 h (39) (by decide)
    have P1 : Hid (∀ W r, St w W sp2 r → Calls Try.prog 99 #[.pointer (some ⟨w.heap.size + 1 + 1, 0, none⟩), .int .i64 12, .int .i64 3, .int .u32 2] W fun e W' => e = .returned (.tuple #[]) ∧ St w W' sp2 (pt12 (2) r)) := Lib.hid fun W r h => st_put12 h (2) (by decide)
    have h0 : St w (((w.alloc (.cells #[.int .u8 2, .string ⟨#[102, 115]⟩, .int .u32 39, .int .i64 (-1), .int .i64 (0), .int .i64 (-1), .int .u8 2] 116)).alloc (.cells #[.int .u8 0, .int .u8 0, .int .u8 0, .int .u8 0, .int .u32 0, .int .u32 0, .int .u8 0, .string ⟨#[]⟩] 119)).alloc (.cells #[.int .u8 2, .int .u8 0, .int .u8 0, .int .u8 0, .int .u32 0, .int .u32 0, .int .u8 2, .string ⟨#[]⟩] 119)) sp2 ⟨2, 0, 0, 0, 0, 0, 2⟩ := st_start w sp2 0
    obtain ⟨a0, a2, a3, a4, a5, a6, d2, d3⟩ := cells_2 h0
    have hix : ∀ w, (Instr.index 146 (.agg #[.int .u8 2, .int .u8 3, .int .u8 1, .int .u8 4]) (.int .u8 0)).run Try.prog w = .ok (.int .u8 2) w := fun w => by kernel_rfl
    go_enter Try.func87, Try.ntmps87
    go_wp2_with (first
      | (go_at_call 99; (with_reducible refine (P0.out _ _ h0).mono ?_); rintro e w1 ⟨rfl, h1⟩; clear P0; obtain ⟨a0, a2, a3, a4, a5, a6, d2, d3⟩ := cells_2 h1))
    go_quiet (fail)
    go_wp2_with (first
      | (go_at_call 99; (with_reducible refine (P1.out _ _ (h1.drewN _)).mono ?_); rintro e w2 ⟨rfl, h2⟩; clear P1; obtain ⟨a0, a2, a3, a4, a5, a6, d2, d3⟩ := cells_2 h2)
      | (refine wpList_load_blk rfl _ _ rfl _ rfl _ _ _ h2.ent Try.underlying119 rfl (by kernel_rfl) ?_)
      | (refine wpList_store_blk rfl _ _ _ rfl _ _ rfl rfl _ _ h2.res (by kernel_rfl) rfl (by simp [Value.oneCell']) ?_))
    exact bodyPost_ret (results_cell rfl _ _ (w.heap.size + 1) _ _ _ rfl (h2.res.row _) Try.underlying119 rfl (by kernel_rfl)) rfl ⟨rfl, below_setRow h2.bel (by omega) _⟩
  · skip
    have P0 : Hid (∀ W r, St w W sp2 r → Calls Try.prog 99 #[.pointer (some ⟨w.heap.size + 1 + 1, 0, none⟩), .int .i64 0, .int .i64 7, .int .u32 39] W fun e W' => e = .returned (.tuple #[]) ∧ St w W' sp2 (pt0 (39) r)) := Lib.hid fun W r h => st_put0 h (39) (by decide)
    have P1 : Hid (∀ W r, St w W sp2 r → Calls Try.prog 99 #[.pointer (some ⟨w.heap.size + 1 + 1, 0, none⟩), .int .i64 12, .int .i64 3, .int .u32 3] W fun e W' => e = .returned (.tuple #[]) ∧ St w W' sp2 (pt12 (3) r)) := Lib.hid fun W r h => st_put12 h (3) (by decide)
    have h0 : St w (((w.alloc (.cells #[.int .u8 2, .string ⟨#[102, 115]⟩, .int .u32 39, .int .i64 (-1), .int .i64 (0), .int .i64 (-1), .int .u8 2] 116)).alloc (.cells #[.int .u8 0, .int .u8 0, .int .u8 0, .int .u8 0, .int .u32 0, .int .u32 0, .int .u8 0, .string ⟨#[]⟩] 119)).alloc (.cells #[.int .u8 2, .int .u8 1, .int .u8 0, .int .u8 0, .int .u32 0, .int .u32 0, .int .u8 2, .string ⟨#[]⟩] 119)) sp2 ⟨2, 1, 0, 0, 0, 0, 2⟩ := st_start w sp2 1
    obtain ⟨a0, a2, a3, a4, a5, a6, d2, d3⟩ := cells_2 h0
    have hix : ∀ w, (Instr.index 146 (.agg #[.int .u8 2, .int .u8 3, .int .u8 1, .int .u8 4]) (.int .u8 1)).run Try.prog w = .ok (.int .u8 3) w := fun w => by kernel_rfl
    go_enter Try.func87, Try.ntmps87
    go_wp2_with (first
      | (go_at_call 99; (with_reducible refine (P0.out _ _ h0).mono ?_); rintro e w1 ⟨rfl, h1⟩; clear P0; obtain ⟨a0, a2, a3, a4, a5, a6, d2, d3⟩ := cells_2 h1))
    go_quiet (fail)
    go_wp2_with (first
      | (go_at_call 99; (with_reducible refine (P1.out _ _ (h1.drewN _)).mono ?_); rintro e w2 ⟨rfl, h2⟩; clear P1; obtain ⟨a0, a2, a3, a4, a5, a6, d2, d3⟩ := cells_2 h2)
      | (refine wpList_load_blk rfl _ _ rfl _ rfl _ _ _ h2.ent Try.underlying119 rfl (by kernel_rfl) ?_)
      | (refine wpList_store_blk rfl _ _ _ rfl _ _ rfl rfl _ _ h2.res (by kernel_rfl) rfl (by simp [Value.oneCell']) ?_))
    exact bodyPost_ret (results_cell rfl _ _ (w.heap.size + 1) _ _ _ rfl (h2.res.row _) Try.underlying119 rfl (by kernel_rfl)) rfl ⟨rfl, below_setRow h2.bel (by omega) _⟩
  · skip
    have P0 : Hid (∀ W r, St w W sp2 r → Calls Try.prog 99 #[.pointer (some ⟨w.heap.size + 1 + 1, 0, none⟩), .int .i64 0, .int .i64 7, .int .u32 39] W fun e W' => e = .returned (.tuple #[]) ∧ St w W' sp2 (pt0 (39) r)) := Lib.hid fun W r h => st_put0 h (39) (by decide)
    have P1 : Hid (∀ W r, St w W sp2 r → Calls Try.prog 99 #[.pointer (some ⟨w.heap.size + 1 + 1, 0, none⟩), .int .i64 12, .int .i64 3, .int .u32 1] W fun e W' => e = .returned (.tuple #[]) ∧ St w W' sp2 (pt12 (1) r)) := Lib.hid fun W r h => st_put12 h (1) (by decide)
    have h0 : St w (((w.alloc (.cells #[.int .u8 2, .string ⟨#[102, 115]⟩, .int .u32 39, .int .i64 (-1), .int .i64 (0), .int .i64 (-1), .int .u8 2] 116)).alloc (.cells #[.int .u8 0, .int .u8 0, .int .u8 0, .int .u8 0, .int .u32 0, .int .u32 0, .int .u8 0, .string ⟨#[]⟩] 119)).alloc (.cells #[.int .u8 2, .int .u8 2, .int .u8 0, .int .u8 0, .int .u32 0, .int .u32 0, .int .u8 2, .string ⟨#[]⟩] 119)) sp2 ⟨2, 2, 0, 0, 0, 0, 2⟩ := st_start w sp2 2
    obtain ⟨a0, a2, a3, a4, a5, a6, d2, d3⟩ := cells_2 h0
    have hix : ∀ w, (Instr.index 146 (.agg #[.int .u8 2, .int .u8 3, .int .u8 1, .int .u8 4]) (.int .u8 2)).run Try.prog w = .ok (.int .u8 1) w := fun w => by kernel_rfl
    go_enter Try.func87, Try.ntmps87
    go_wp2_with (first
      | (go_at_call 99; (with_reducible refine (P0.out _ _ h0).mono ?_); rintro e w1 ⟨rfl, h1⟩; clear P0; obtain ⟨a0, a2, a3, a4, a5, a6, d2, d3⟩ := cells_2 h1))
    go_quiet (fail)
    go_wp2_with (first
      | (go_at_call 99; (with_reducible refine (P1.out _ _ (h1.drewN _)).mono ?_); rintro e w2 ⟨rfl, h2⟩; clear P1; obtain ⟨a0, a2, a3, a4, a5, a6, d2, d3⟩ := cells_2 h2)
      | (refine wpList_load_blk rfl _ _ rfl _ rfl _ _ _ h2.ent Try.underlying119 rfl (by kernel_rfl) ?_)
      | (refine wpList_store_blk rfl _ _ _ rfl _ _ rfl rfl _ _ h2.res (by kernel_rfl) rfl (by simp [Value.oneCell']) ?_))
    exact bodyPost_ret (results_cell rfl _ _ (w.heap.size + 1) _ _ _ rfl (h2.res.row _) Try.underlying119 rfl (by kernel_rfl)) rfl ⟨rfl, below_setRow h2.bel (by omega) _⟩
  · skip
    have P0 : Hid (∀ W r, St w W sp2 r → Calls Try.prog 99 #[.pointer (some ⟨w.heap.size + 1 + 1, 0, none⟩), .int .i64 0, .int .i64 7, .int .u32 39] W fun e W' => e = .returned (.tuple #[]) ∧ St w W' sp2 (pt0 (39) r)) := Lib.hid fun W r h => st_put0 h (39) (by decide)
    have P1 : Hid (∀ W r, St w W sp2 r → Calls Try.prog 99 #[.pointer (some ⟨w.heap.size + 1 + 1, 0, none⟩), .int .i64 12, .int .i64 3, .int .u32 4] W fun e W' => e = .returned (.tuple #[]) ∧ St w W' sp2 (pt12 (4) r)) := Lib.hid fun W r h => st_put12 h (4) (by decide)
    have h0 : St w (((w.alloc (.cells #[.int .u8 2, .string ⟨#[102, 115]⟩, .int .u32 39, .int .i64 (-1), .int .i64 (0), .int .i64 (-1), .int .u8 2] 116)).alloc (.cells #[.int .u8 0, .int .u8 0, .int .u8 0, .int .u8 0, .int .u32 0, .int .u32 0, .int .u8 0, .string ⟨#[]⟩] 119)).alloc (.cells #[.int .u8 2, .int .u8 3, .int .u8 0, .int .u8 0, .int .u32 0, .int .u32 0, .int .u8 2, .string ⟨#[]⟩] 119)) sp2 ⟨2, 3, 0, 0, 0, 0, 2⟩ := st_start w sp2 3
    obtain ⟨a0, a2, a3, a4, a5, a6, d2, d3⟩ := cells_2 h0
    have hix : ∀ w, (Instr.index 146 (.agg #[.int .u8 2, .int .u8 3, .int .u8 1, .int .u8 4]) (.int .u8 3)).run Try.prog w = .ok (.int .u8 4) w := fun w => by kernel_rfl
    go_enter Try.func87, Try.ntmps87
    go_wp2_with (first
      | (go_at_call 99; (with_reducible refine (P0.out _ _ h0).mono ?_); rintro e w1 ⟨rfl, h1⟩; clear P0; obtain ⟨a0, a2, a3, a4, a5, a6, d2, d3⟩ := cells_2 h1))
    go_quiet (fail)
    go_wp2_with (first
      | (go_at_call 99; (with_reducible refine (P1.out _ _ (h1.drewN _)).mono ?_); rintro e w2 ⟨rfl, h2⟩; clear P1; obtain ⟨a0, a2, a3, a4, a5, a6, d2, d3⟩ := cells_2 h2)
      | (refine wpList_load_blk rfl _ _ rfl _ rfl _ _ _ h2.ent Try.underlying119 rfl (by kernel_rfl) ?_)
      | (refine wpList_store_blk rfl _ _ _ rfl _ _ rfl rfl _ _ h2.res (by kernel_rfl) rfl (by simp [Value.oneCell']) ?_))
    exact bodyPost_ret (results_cell rfl _ _ (w.heap.size + 1) _ _ _ rfl (h2.res.row _) Try.underlying119 rfl (by kernel_rfl)) rfl ⟨rfl, below_setRow h2.bel (by omega) _⟩
theorem cells_3 {w W : World} {r : R7} (h : St w W sp3 r) : W.cell? ⟨w.heap.size, 0, none⟩ = some (.int .u8 3) ∧ W.cell? ⟨w.heap.size, 2, none⟩ = some (.int .u32 67) ∧ W.cell? ⟨w.heap.size, 3, none⟩ = some (.int .i64 (-1)) ∧ W.cell? ⟨w.heap.size, 4, none⟩ = some (.int .i64 (-1)) ∧ W.cell? ⟨w.heap.size, 5, none⟩ = some (.int .i64 (-1)) ∧ W.cell? ⟨w.heap.size, 6, none⟩ = some (.int .u8 3) ∧ W.cell? ⟨w.heap.size + 1 + 1, 2, none⟩ = some (.int .u8 (r.frm : Nat)) ∧ W.cell? ⟨w.heap.size + 1 + 1, 3, none⟩ = some (.int .u8 (r.kind : Nat)) :=
  ⟨h.sp.cell 0, h.sp.cell 2, h.sp.cell 3, h.sp.cell 4, h.sp.cell 5, h.sp.cell 6, h.ent.cell 2, h.ent.cell 3⟩
theorem one_3 (w : World) (f n : Nat) (hf : f < 4) (hn : n < 4) : Calls Try.prog 87 #[.agg (specV sp3), .int .u8 f, .int .i64 n] w (OneP w (ONE sp3 f n)) := by
  show Calls Try.prog 87 #[.agg #[.int .u8 3, .string ⟨#[102, 109, 97, 100, 100]⟩, .int .u32 67, .int .i64 (-1), .int .i64 (-1), .int .i64 (-1), .int .u8 3], .int .u8 f, .int .i64 n] w (OneP w (ONE sp3 f n))
  have P0 : Hid (∀ W r, St w W sp3 r → Calls Try.prog 99 #[.pointer (some ⟨w.heap.size + 1 + 1, 0, none⟩), .int .i64 0, .int .i64 7, .int .u32 67] W fun e W' => e = .returned (.tuple #[]) ∧ St w W' sp3 (pt0 (67) r)) := Lib.hid fun W r h => st_put0 h (67) (by decide)
  have P1 : Hid (∀ W r, St w W sp3 r → Calls Try.prog 99 #[.pointer (some ⟨w.heap.size + 1 + 1, 0, none⟩), .int .i64 25, .int .i64 2, .int .u32 (f : Nat)] W fun e W' => e = .returned (.tuple #[]) ∧ St w W' sp3 (pt25 (f) r)) := Lib.hid fun W r h => st_put25 h (f) (by omega)
  have h0 : St w (((w.alloc (.cells #[.int .u8 3, .string ⟨#[102, 109, 97, 100, 100]⟩, .int .u32 67, .int .i64 (-1), .int .i64 (-1), .int .i64 (-1), .int .u8 3] 116)).alloc (.cells #[.int .u8 0, .int .u8 0, .int .u8 0, .int .u8 0, .int .u32 0, .int .u32 0, .int .u8 0, .string ⟨#[]⟩] 119)).alloc (.cells #[.int .u8 3, .int .u8 (f : Nat), .int .u8 0, .int .u8 0, .int .u32 0, .int .u32 0, .int .u8 3, .string ⟨#[]⟩] 119)) sp3 ⟨3, (f : Nat), 0, 0, 0, 0, 3⟩ := st_start w sp3 f
  obtain ⟨a0, a2, a3, a4, a5, a6, d2, d3⟩ := cells_3 h0
  go_enter Try.func87, Try.ntmps87
  go_wp2_with (first
    | (go_at_call 99; (with_reducible refine (P0.out _ _ h0).mono ?_); rintro e w1 ⟨rfl, h1⟩; clear P0; obtain ⟨a0, a2, a3, a4, a5, a6, d2, d3⟩ := cells_3 h1))
  go_quiet (fail)
  go_wp2_with (first
    | (go_at_call 99; (with_reducible refine (P1.out _ _ (h1.drewN _)).mono ?_); rintro e w2 ⟨rfl, h2⟩; clear P1; obtain ⟨a0, a2, a3, a4, a5, a6, d2, d3⟩ := cells_3 h2)
    | (refine wpList_load_blk rfl _ _ rfl _ rfl _ _ _ h2.ent Try.underlying119 rfl (by kernel_rfl) ?_)
    | (refine wpList_store_blk rfl _ _ _ rfl _ _ rfl rfl _ _ h2.res (by kernel_rfl) rfl (by simp [Value.oneCell']) ?_))
  exact bodyPost_ret (results_cell rfl _ _ (w.heap.size + 1) _ _ _ rfl (h2.res.row _) Try.underlying119 rfl (by kernel_rfl)) rfl ⟨rfl, below_setRow h2.bel (by omega) _⟩
theorem cells_4 {w W : World} {r : R7} (h : St w W sp4 r) : W.cell? ⟨w.heap.size, 0, none⟩ = some (.int .u8 4) ∧ W.cell? ⟨w.heap.size, 2, none⟩ = some (.int .u32 71) ∧ W.cell? ⟨w.heap.size, 3, none⟩ = some (.int .i64 (-1)) ∧ W.cell? ⟨w.heap.size, 4, none⟩ = some (.int .i64 (-1)) ∧ W.cell? ⟨w.heap.size, 5, none⟩ = some (.int .i64 (-1)) ∧ W.cell? ⟨w.heap.size, 6, none⟩ = some (.int .u8 3) ∧ W.cell? ⟨w.heap.size + 1 + 1, 2, none⟩ = some (.int .u8 (r.frm : Nat)) ∧ W.cell? ⟨w.heap.size + 1 + 1, 3, none⟩ = some (.int .u8 (r.kind : Nat)) :=
  ⟨h.sp.cell 0, h.sp.cell 2, h.sp.cell 3, h.sp.cell 4, h.sp.cell 5, h.sp.cell 6, h.ent.cell 2, h.ent.cell 3⟩
theorem one_4 (w : World) (f n : Nat) (hf : f < 4) (hn : n < 4) : Calls Try.prog 87 #[.agg (specV sp4), .int .u8 f, .int .i64 n] w (OneP w (ONE sp4 f n)) := by
  show Calls Try.prog 87 #[.agg #[.int .u8 4, .string ⟨#[102, 109, 115, 117, 98]⟩, .int .u32 71, .int .i64 (-1), .int .i64 (-1), .int .i64 (-1), .int .u8 3], .int .u8 f, .int .i64 n] w (OneP w (ONE sp4 f n))
  have P0 : Hid (∀ W r, St w W sp4 r → Calls Try.prog 99 #[.pointer (some ⟨w.heap.size + 1 + 1, 0, none⟩), .int .i64 0, .int .i64 7, .int .u32 71] W fun e W' => e = .returned (.tuple #[]) ∧ St w W' sp4 (pt0 (71) r)) := Lib.hid fun W r h => st_put0 h (71) (by decide)
  have P1 : Hid (∀ W r, St w W sp4 r → Calls Try.prog 99 #[.pointer (some ⟨w.heap.size + 1 + 1, 0, none⟩), .int .i64 25, .int .i64 2, .int .u32 (f : Nat)] W fun e W' => e = .returned (.tuple #[]) ∧ St w W' sp4 (pt25 (f) r)) := Lib.hid fun W r h => st_put25 h (f) (by omega)
  have h0 : St w (((w.alloc (.cells #[.int .u8 4, .string ⟨#[102, 109, 115, 117, 98]⟩, .int .u32 71, .int .i64 (-1), .int .i64 (-1), .int .i64 (-1), .int .u8 3] 116)).alloc (.cells #[.int .u8 0, .int .u8 0, .int .u8 0, .int .u8 0, .int .u32 0, .int .u32 0, .int .u8 0, .string ⟨#[]⟩] 119)).alloc (.cells #[.int .u8 4, .int .u8 (f : Nat), .int .u8 0, .int .u8 0, .int .u32 0, .int .u32 0, .int .u8 3, .string ⟨#[]⟩] 119)) sp4 ⟨4, (f : Nat), 0, 0, 0, 0, 3⟩ := st_start w sp4 f
  obtain ⟨a0, a2, a3, a4, a5, a6, d2, d3⟩ := cells_4 h0
  go_enter Try.func87, Try.ntmps87
  go_wp2_with (first
    | (go_at_call 99; (with_reducible refine (P0.out _ _ h0).mono ?_); rintro e w1 ⟨rfl, h1⟩; clear P0; obtain ⟨a0, a2, a3, a4, a5, a6, d2, d3⟩ := cells_4 h1))
  go_quiet (fail)
  go_wp2_with (first
    | (go_at_call 99; (with_reducible refine (P1.out _ _ (h1.drewN _)).mono ?_); rintro e w2 ⟨rfl, h2⟩; clear P1; obtain ⟨a0, a2, a3, a4, a5, a6, d2, d3⟩ := cells_4 h2)
    | (refine wpList_load_blk rfl _ _ rfl _ rfl _ _ _ h2.ent Try.underlying119 rfl (by kernel_rfl) ?_)
    | (refine wpList_store_blk rfl _ _ _ rfl _ _ rfl rfl _ _ h2.res (by kernel_rfl) rfl (by simp [Value.oneCell']) ?_))
  exact bodyPost_ret (results_cell rfl _ _ (w.heap.size + 1) _ _ _ rfl (h2.res.row _) Try.underlying119 rfl (by kernel_rfl)) rfl ⟨rfl, below_setRow h2.bel (by omega) _⟩
theorem cells_5 {w W : World} {r : R7} (h : St w W sp5 r) : W.cell? ⟨w.heap.size, 0, none⟩ = some (.int .u8 5) ∧ W.cell? ⟨w.heap.size, 2, none⟩ = some (.int .u32 75) ∧ W.cell? ⟨w.heap.size, 3, none⟩ = some (.int .i64 (-1)) ∧ W.cell? ⟨w.heap.size, 4, none⟩ = some (.int .i64 (-1)) ∧ W.cell? ⟨w.heap.size, 5, none⟩ = some (.int .i64 (-1)) ∧ W.cell? ⟨w.heap.size, 6, none⟩ = some (.int .u8 3) ∧ W.cell? ⟨w.heap.size + 1 + 1, 2, none⟩ = some (.int .u8 (r.frm : Nat)) ∧ W.cell? ⟨w.heap.size + 1 + 1, 3, none⟩ = some (.int .u8 (r.kind : Nat)) :=
  ⟨h.sp.cell 0, h.sp.cell 2, h.sp.cell 3, h.sp.cell 4, h.sp.cell 5, h.sp.cell 6, h.ent.cell 2, h.ent.cell 3⟩
theorem one_5 (w : World) (f n : Nat) (hf : f < 4) (hn : n < 4) : Calls Try.prog 87 #[.agg (specV sp5), .int .u8 f, .int .i64 n] w (OneP w (ONE sp5 f n)) := by
  show Calls Try.prog 87 #[.agg #[.int .u8 5, .string ⟨#[102, 110, 109, 115, 117, 98]⟩, .int .u32 75, .int .i64 (-1), .int .i64 (-1), .int .i64 (-1), .int .u8 3], .int .u8 f, .int .i64 n] w (OneP w (ONE sp5 f n))
  have P0 : Hid (∀ W r, St w W sp5 r → Calls Try.prog 99 #[.pointer (some ⟨w.heap.size + 1 + 1, 0, none⟩), .int .i64 0, .int .i64 7, .int .u32 75] W fun e W' => e = .returned (.tuple #[]) ∧ St w W' sp5 (pt0 (75) r)) := Lib.hid fun W r h => st_put0 h (75) (by decide)
  have P1 : Hid (∀ W r, St w W sp5 r → Calls Try.prog 99 #[.pointer (some ⟨w.heap.size + 1 + 1, 0, none⟩), .int .i64 25, .int .i64 2, .int .u32 (f : Nat)] W fun e W' => e = .returned (.tuple #[]) ∧ St w W' sp5 (pt25 (f) r)) := Lib.hid fun W r h => st_put25 h (f) (by omega)
  have h0 : St w (((w.alloc (.cells #[.int .u8 5, .string ⟨#[102, 110, 109, 115, 117, 98]⟩, .int .u32 75, .int .i64 (-1), .int .i64 (-1), .int .i64 (-1), .int .u8 3] 116)).alloc (.cells #[.int .u8 0, .int .u8 0, .int .u8 0, .int .u8 0, .int .u32 0, .int .u32 0, .int .u8 0, .string ⟨#[]⟩] 119)).alloc (.cells #[.int .u8 5, .int .u8 (f : Nat), .int .u8 0, .int .u8 0, .int .u32 0, .int .u32 0, .int .u8 3, .string ⟨#[]⟩] 119)) sp5 ⟨5, (f : Nat), 0, 0, 0, 0, 3⟩ := st_start w sp5 f
  obtain ⟨a0, a2, a3, a4, a5, a6, d2, d3⟩ := cells_5 h0
  go_enter Try.func87, Try.ntmps87
  go_wp2_with (first
    | (go_at_call 99; (with_reducible refine (P0.out _ _ h0).mono ?_); rintro e w1 ⟨rfl, h1⟩; clear P0; obtain ⟨a0, a2, a3, a4, a5, a6, d2, d3⟩ := cells_5 h1))
  go_quiet (fail)
  go_wp2_with (first
    | (go_at_call 99; (with_reducible refine (P1.out _ _ (h1.drewN _)).mono ?_); rintro e w2 ⟨rfl, h2⟩; clear P1; obtain ⟨a0, a2, a3, a4, a5, a6, d2, d3⟩ := cells_5 h2)
    | (refine wpList_load_blk rfl _ _ rfl _ rfl _ _ _ h2.ent Try.underlying119 rfl (by kernel_rfl) ?_)
    | (refine wpList_store_blk rfl _ _ _ rfl _ _ rfl rfl _ _ h2.res (by kernel_rfl) rfl (by simp [Value.oneCell']) ?_))
  exact bodyPost_ret (results_cell rfl _ _ (w.heap.size + 1) _ _ _ rfl (h2.res.row _) Try.underlying119 rfl (by kernel_rfl)) rfl ⟨rfl, below_setRow h2.bel (by omega) _⟩
theorem cells_6 {w W : World} {r : R7} (h : St w W sp6 r) : W.cell? ⟨w.heap.size, 0, none⟩ = some (.int .u8 6) ∧ W.cell? ⟨w.heap.size, 2, none⟩ = some (.int .u32 79) ∧ W.cell? ⟨w.heap.size, 3, none⟩ = some (.int .i64 (-1)) ∧ W.cell? ⟨w.heap.size, 4, none⟩ = some (.int .i64 (-1)) ∧ W.cell? ⟨w.heap.size, 5, none⟩ = some (.int .i64 (-1)) ∧ W.cell? ⟨w.heap.size, 6, none⟩ = some (.int .u8 3) ∧ W.cell? ⟨w.heap.size + 1 + 1, 2, none⟩ = some (.int .u8 (r.frm : Nat)) ∧ W.cell? ⟨w.heap.size + 1 + 1, 3, none⟩ = some (.int .u8 (r.kind : Nat)) :=
  ⟨h.sp.cell 0, h.sp.cell 2, h.sp.cell 3, h.sp.cell 4, h.sp.cell 5, h.sp.cell 6, h.ent.cell 2, h.ent.cell 3⟩
theorem one_6 (w : World) (f n : Nat) (hf : f < 4) (hn : n < 4) : Calls Try.prog 87 #[.agg (specV sp6), .int .u8 f, .int .i64 n] w (OneP w (ONE sp6 f n)) := by
  show Calls Try.prog 87 #[.agg #[.int .u8 6, .string ⟨#[102, 110, 109, 97, 100, 100]⟩, .int .u32 79, .int .i64 (-1), .int .i64 (-1), .int .i64 (-1), .int .u8 3], .int .u8 f, .int .i64 n] w (OneP w (ONE sp6 f n))
  have P0 : Hid (∀ W r, St w W sp6 r → Calls Try.prog 99 #[.pointer (some ⟨w.heap.size + 1 + 1, 0, none⟩), .int .i64 0, .int .i64 7, .int .u32 79] W fun e W' => e = .returned (.tuple #[]) ∧ St w W' sp6 (pt0 (79) r)) := Lib.hid fun W r h => st_put0 h (79) (by decide)
  have P1 : Hid (∀ W r, St w W sp6 r → Calls Try.prog 99 #[.pointer (some ⟨w.heap.size + 1 + 1, 0, none⟩), .int .i64 25, .int .i64 2, .int .u32 (f : Nat)] W fun e W' => e = .returned (.tuple #[]) ∧ St w W' sp6 (pt25 (f) r)) := Lib.hid fun W r h => st_put25 h (f) (by omega)
  have h0 : St w (((w.alloc (.cells #[.int .u8 6, .string ⟨#[102, 110, 109, 97, 100, 100]⟩, .int .u32 79, .int .i64 (-1), .int .i64 (-1), .int .i64 (-1), .int .u8 3] 116)).alloc (.cells #[.int .u8 0, .int .u8 0, .int .u8 0, .int .u8 0, .int .u32 0, .int .u32 0, .int .u8 0, .string ⟨#[]⟩] 119)).alloc (.cells #[.int .u8 6, .int .u8 (f : Nat), .int .u8 0, .int .u8 0, .int .u32 0, .int .u32 0, .int .u8 3, .string ⟨#[]⟩] 119)) sp6 ⟨6, (f : Nat), 0, 0, 0, 0, 3⟩ := st_start w sp6 f
  obtain ⟨a0, a2, a3, a4, a5, a6, d2, d3⟩ := cells_6 h0
  go_enter Try.func87, Try.ntmps87
  go_wp2_with (first
    | (go_at_call 99; (with_reducible refine (P0.out _ _ h0).mono ?_); rintro e w1 ⟨rfl, h1⟩; clear P0; obtain ⟨a0, a2, a3, a4, a5, a6, d2, d3⟩ := cells_6 h1))
  go_quiet (fail)
  go_wp2_with (first
    | (go_at_call 99; (with_reducible refine (P1.out _ _ (h1.drewN _)).mono ?_); rintro e w2 ⟨rfl, h2⟩; clear P1; obtain ⟨a0, a2, a3, a4, a5, a6, d2, d3⟩ := cells_6 h2)
    | (refine wpList_load_blk rfl _ _ rfl _ rfl _ _ _ h2.ent Try.underlying119 rfl (by kernel_rfl) ?_)
    | (refine wpList_store_blk rfl _ _ _ rfl _ _ rfl rfl _ _ h2.res (by kernel_rfl) rfl (by simp [Value.oneCell']) ?_))
  exact bodyPost_ret (results_cell rfl _ _ (w.heap.size + 1) _ _ _ rfl (h2.res.row _) Try.underlying119 rfl (by kernel_rfl)) rfl ⟨rfl, below_setRow h2.bel (by omega) _⟩
theorem cells_7 {w W : World} {r : R7} (h : St w W sp7 r) : W.cell? ⟨w.heap.size, 0, none⟩ = some (.int .u8 7) ∧ W.cell? ⟨w.heap.size, 2, none⟩ = some (.int .u32 83) ∧ W.cell? ⟨w.heap.size, 3, none⟩ = some (.int .i64 (0)) ∧ W.cell? ⟨w.heap.size, 4, none⟩ = some (.int .i64 (-1)) ∧ W.cell? ⟨w.heap.size, 5, none⟩ = some (.int .i64 (-1)) ∧ W.cell? ⟨w.heap.size, 6, none⟩ = some (.int .u8 4) ∧ W.cell? ⟨w.heap.size + 1 + 1, 2, none⟩ = some (.int .u8 (r.frm : Nat)) ∧ W.cell? ⟨w.heap.size + 1 + 1, 3, none⟩ = some (.int .u8 (r.kind : Nat)) :=
  ⟨h.sp.cell 0, h.sp.cell 2, h.sp.cell 3, h.sp.cell 4, h.sp.cell 5, h.sp.cell 6, h.ent.cell 2, h.ent.cell 3⟩
theorem one_7 (w : World) (f n : Nat) (hf : f < 4) (hn : n < 4) : Calls Try.prog 87 #[.agg (specV sp7), .int .u8 f, .int .i64 n] w (OneP w (ONE sp7 f n)) := by
  show Calls Try.prog 87 #[.agg #[.int .u8 7, .string ⟨#[102, 97, 100, 100]⟩, .int .u32 83, .int .i64 (0), .int .i64 (-1), .int .i64 (-1), .int .u8 4], .int .u8 f, .int .i64 n] w (OneP w (ONE sp7 f n))
  have P0 : Hid (∀ W r, St w W sp7 r → Calls Try.prog 99 #[.pointer (some ⟨w.heap.size + 1 + 1, 0, none⟩), .int .i64 0, .int .i64 7, .int .u32 83] W fun e W' => e = .returned (.tuple #[]) ∧ St w W' sp7 (pt0 (83) r)) := Lib.hid fun W r h => st_put0 h (83) (by decide)
  have P1 : Hid (∀ W r, St w W sp7 r → Calls Try.prog 99 #[.pointer (some ⟨w.heap.size + 1 + 1, 0, none⟩), .int .i64 25, .int .i64 2, .int .u32 (f : Nat)] W fun e W' => e = .returned (.tuple #[]) ∧ St w W' sp7 (pt25 (f) r)) := Lib.hid fun W r h => st_put25 h (f) (by omega)
  have P2 : Hid (∀ W r, St w W sp7 r → Calls Try.prog 99 #[.pointer (some ⟨w.heap.size + 1 + 1, 0, none⟩), .int .i64 27, .int .i64 5, .int .u32 0] W fun e W' => e = .returned (.tuple #[]) ∧ St w W' sp7 (pt27 (0) r)) := Lib.hid fun W r h => st_put27 h (0) (by decide)
  have h0 : St w (((w.alloc (.cells #[.int .u8 7, .string ⟨#[102, 97, 100, 100]⟩, .int .u32 83, .int .i64 (0), .int .i64 (-1), .int .i64 (-1), .int .u8 4] 116)).alloc (.cells #[.int .u8 0, .int .u8 0, .int .u8 0, .int .u8 0, .int .u32 0, .int .u32 0, .int .u8 0, .string ⟨#[]⟩] 119)).alloc (.cells #[.int .u8 7, .int .u8 (f : Nat), .int .u8 0, .int .u8 0, .int .u32 0, .int .u32 0, .int .u8 4, .string ⟨#[]⟩] 119)) sp7 ⟨7, (f : Nat), 0, 0, 0, 0, 4⟩ := st_start w sp7 f
  obtain ⟨a0, a2, a3, a4, a5, a6, d2, d3⟩ := cells_7 h0
  go_enter Try.func87, Try.ntmps87
  go_wp2_with (first
    | (go_at_call 99; (with_reducible refine (P0.out _ _ h0).mono ?_); rintro e w1 ⟨rfl, h1⟩; clear P0; obtain ⟨a0, a2, a3, a4, a5, a6, d2, d3⟩ := cells_7 h1))
  go_quiet (fail)
  go_wp2_with (first
    | (go_at_call 99; (with_reducible refine (P1.out _ _ (h1.drewN _)).mono ?_); rintro e w2 ⟨rfl, h2⟩; clear P1; obtain ⟨a0, a2, a3, a4, a5, a6, d2, d3⟩ := cells_7 h2)
    | (go_at_call 99; (with_reducible refine (P2.out _ _ h2).mono ?_); rintro e w3 ⟨rfl, h3⟩; clear P2; obtain ⟨a0, a2, a3, a4, a5, a6, d2, d3⟩ := cells_7 h3)
    | (refine wpList_load_blk rfl _ _ rfl _ rfl _ _ _ h3.ent Try.underlying119 rfl (by kernel_rfl) ?_)
    | (refine wpList_store_blk rfl _ _ _ rfl _ _ rfl rfl _ _ h3.res (by kernel_rfl) rfl (by simp [Value.oneCell']) ?_))
  exact bodyPost_ret (results_cell rfl _ _ (w.heap.size + 1) _ _ _ rfl (h3.res.row _) Try.underlying119 rfl (by kernel_rfl)) rfl ⟨rfl, below_setRow h3.bel (by omega) _⟩
theorem cells_8 {w W : World} {r : R7} (h : St w W sp8 r) : W.cell? ⟨w.heap.size, 0, none⟩ = some (.int .u8 8) ∧ W.cell? ⟨w.heap.size, 2, none⟩ = some (.int .u32 83) ∧ W.cell? ⟨w.heap.size, 3, none⟩ = some (.int .i64 (1)) ∧ W.cell? ⟨w.heap.size, 4, none⟩ = some (.int .i64 (-1)) ∧ W.cell? ⟨w.heap.size, 5, none⟩ = some (.int .i64 (-1)) ∧ W.cell? ⟨w.heap.size, 6, none⟩ = some (.int .u8 4) ∧ W.cell? ⟨w.heap.size + 1 + 1, 2, none⟩ = some (.int .u8 (r.frm : Nat)) ∧ W.cell? ⟨w.heap.size + 1 + 1, 3, none⟩ = some (.int .u8 (r.kind : Nat)) :=
  ⟨h.sp.cell 0, h.sp.cell 2, h.sp.cell 3, h.sp.cell 4, h.sp.cell 5, h.sp.cell 6, h.ent.cell 2, h.ent.cell 3⟩
theorem one_8 (w : World) (f n : Nat) (hf : f < 4) (hn : n < 4) : Calls Try.prog 87 #[.agg (specV sp8), .int .u8 f, .int .i64 n] w (OneP w (ONE sp8 f n)) := by
  show Calls Try.prog 87 #[.agg #[.int .u8 8, .string ⟨#[102, 115, 117, 98]⟩, .int .u32 83, .int .i64 (1), .int .i64 (-1), .int .i64 (-1), .int .u8 4], .int .u8 f, .int .i64 n] w (OneP w (ONE sp8 f n))
  have P0 : Hid (∀ W r, St w W sp8 r → Calls Try.prog 99 #[.pointer (some ⟨w.heap.size + 1 + 1, 0, none⟩), .int .i64 0, .int .i64 7, .int .u32 83] W fun e W' => e = .returned (.tuple #[]) ∧ St w W' sp8 (pt0 (83) r)) := Lib.hid fun W r h => st_put0 h (83) (by decide)
  have P1 : Hid (∀ W r, St w W sp8 r → Calls Try.prog 99 #[.pointer (some ⟨w.heap.size + 1 + 1, 0, none⟩), .int .i64 25, .int .i64 2, .int .u32 (f : Nat)] W fun e W' => e = .returned (.tuple #[]) ∧ St w W' sp8 (pt25 (f) r)) := Lib.hid fun W r h => st_put25 h (f) (by omega)
  have P2 : Hid (∀ W r, St w W sp8 r → Calls Try.prog 99 #[.pointer (some ⟨w.heap.size + 1 + 1, 0, none⟩), .int .i64 27, .int .i64 5, .int .u32 1] W fun e W' => e = .returned (.tuple #[]) ∧ St w W' sp8 (pt27 (1) r)) := Lib.hid fun W r h => st_put27 h (1) (by decide)
  have h0 : St w (((w.alloc (.cells #[.int .u8 8, .string ⟨#[102, 115, 117, 98]⟩, .int .u32 83, .int .i64 (1), .int .i64 (-1), .int .i64 (-1), .int .u8 4] 116)).alloc (.cells #[.int .u8 0, .int .u8 0, .int .u8 0, .int .u8 0, .int .u32 0, .int .u32 0, .int .u8 0, .string ⟨#[]⟩] 119)).alloc (.cells #[.int .u8 8, .int .u8 (f : Nat), .int .u8 0, .int .u8 0, .int .u32 0, .int .u32 0, .int .u8 4, .string ⟨#[]⟩] 119)) sp8 ⟨8, (f : Nat), 0, 0, 0, 0, 4⟩ := st_start w sp8 f
  obtain ⟨a0, a2, a3, a4, a5, a6, d2, d3⟩ := cells_8 h0
  go_enter Try.func87, Try.ntmps87
  go_wp2_with (first
    | (go_at_call 99; (with_reducible refine (P0.out _ _ h0).mono ?_); rintro e w1 ⟨rfl, h1⟩; clear P0; obtain ⟨a0, a2, a3, a4, a5, a6, d2, d3⟩ := cells_8 h1))
  go_quiet (fail)
  go_wp2_with (first
    | (go_at_call 99; (with_reducible refine (P1.out _ _ (h1.drewN _)).mono ?_); rintro e w2 ⟨rfl, h2⟩; clear P1; obtain ⟨a0, a2, a3, a4, a5, a6, d2, d3⟩ := cells_8 h2)
    | (go_at_call 99; (with_reducible refine (P2.out _ _ h2).mono ?_); rintro e w3 ⟨rfl, h3⟩; clear P2; obtain ⟨a0, a2, a3, a4, a5, a6, d2, d3⟩ := cells_8 h3)
    | (refine wpList_load_blk rfl _ _ rfl _ rfl _ _ _ h3.ent Try.underlying119 rfl (by kernel_rfl) ?_)
    | (refine wpList_store_blk rfl _ _ _ rfl _ _ rfl rfl _ _ h3.res (by kernel_rfl) rfl (by simp [Value.oneCell']) ?_))
  exact bodyPost_ret (results_cell rfl _ _ (w.heap.size + 1) _ _ _ rfl (h3.res.row _) Try.underlying119 rfl (by kernel_rfl)) rfl ⟨rfl, below_setRow h3.bel (by omega) _⟩
end Go.Proofs.Ytaddmgclnbkdgaa
