/- (table.spec).one at lines of the table. -/
import Derived.Test.YtaddmgclnbkdgaaTc
namespace Go.Proofs.Ytaddmgclnbkdgaa
open Go Go.RowKit
set_option maxHeartbeats 4000000
set_option maxRecDepth 100000
set_option linter.unusedVariables false
set_option linter.unusedSimpArgs false
theorem cells_25 {w W : World} {r : R7} (h : St w W sp25 r) : W.cell? ⟨w.heap.size, 0, none⟩ = some (.int .u8 25) ∧ W.cell? ⟨w.heap.size, 2, none⟩ = some (.int .u32 83) ∧ W.cell? ⟨w.heap.size, 3, none⟩ = some (.int .i64 (30)) ∧ W.cell? ⟨w.heap.size, 4, none⟩ = some (.int .i64 (0)) ∧ W.cell? ⟨w.heap.size, 5, none⟩ = some (.int .i64 (0)) ∧ W.cell? ⟨w.heap.size, 6, none⟩ = some (.int .u8 7) ∧ W.cell? ⟨w.heap.size + 1 + 1, 2, none⟩ = some (.int .u8 (r.frm : Nat)) ∧ W.cell? ⟨w.heap.size + 1 + 1, 3, none⟩ = some (.int .u8 (r.kind : Nat)) :=
  ⟨h.sp.cell 0, h.sp.cell 2, h.sp.cell 3, h.sp.cell 4, h.sp.cell 5, h.sp.cell 6, h.ent.cell 2, h.ent.cell 3⟩
theorem one_25 (w : World) (f n : Nat) (hf : f < 4) (hn : n < 4) : Calls Try.prog 87 #[.agg (specV sp25), .int .u8 f, .int .i64 n] w (OneP w (ONE sp25 f n)) := by
  show Calls Try.prog 87 #[.agg #[.int .u8 25, .string ⟨#[102, 109, 118]⟩, .int .u32 83, .int .i64 (30), .int .i64 (0), .int .i64 (0), .int .u8 7], .int .u8 f, .int .i64 n] w (OneP w (ONE sp25 f n))
  have P0 : Hid (∀ W r, St w W sp25 r → Calls Try.prog 99 #[.pointer (some ⟨w.heap.size + 1 + 1, 0, none⟩), .int .i64 0, .int .i64 7, .int .u32 83] W fun e W' => e = .returned (.tuple #[]) ∧ St w W' sp25 (pt0 (83) r)) := Lib.hid fun W r h => st_put0 h (83) (by decide)
  have P1 : Hid (∀ W r, St w W sp25 r → Calls Try.prog 99 #[.pointer (some ⟨w.heap.size + 1 + 1, 0, none⟩), .int .i64 25, .int .i64 2, .int .u32 (f : Nat)] W fun e W' => e = .returned (.tuple #[]) ∧ St w W' sp25 (pt25 (f) r)) := Lib.hid fun W r h => st_put25 h (f) (by omega)
  have P2 : Hid (∀ W r, St w W sp25 r → Calls Try.prog 99 #[.pointer (some ⟨w.heap.size + 1 + 1, 0, none⟩), .int .i64 27, .int .i64 5, .int .u32 30] W fun e W' => e = .returned (.tuple #[]) ∧ St w W' sp25 (pt27 (30) r)) := Lib.hid fun W r h => st_put27 h (30) (by decide)
  have P3 : Hid (∀ W r, St w W sp25 r → Calls Try.prog 99 #[.pointer (some ⟨w.heap.size + 1 + 1, 0, none⟩), .int .i64 12, .int .i64 3, .int .u32 0] W fun e W' => e = .returned (.tuple #[]) ∧ St w W' sp25 (pt12 (0) r)) := Lib.hid fun W r h => st_put12 h (0) (by decide)
  have P4 : Hid (∀ W r, St w W sp25 r → Calls Try.prog 99 #[.pointer (some ⟨w.heap.size + 1 + 1, 0, none⟩), .int .i64 20, .int .i64 5, .int .u32 0] W fun e W' => e = .returned (.tuple #[]) ∧ St w W' sp25 (pt20 (0) r)) := Lib.hid fun W r h => st_put20 h (0) (by decide)
  have h0 : St w (((w.alloc (.cells #[.int .u8 25, .string ⟨#[102, 109, 118]⟩, .int .u32 83, .int .i64 (30), .int .i64 (0), .int .i64 (0), .int .u8 7] 116)).alloc (.cells #[.int .u8 0, .int .u8 0, .int .u8 0, .int .u8 0, .int .u32 0, .int .u32 0, .int .u8 0, .string ⟨#[]⟩] 119)).alloc (.cells #[.int .u8 25, .int .u8 (f : Nat), .int .u8 0, .int .u8 0, .int .u32 0, .int .u32 0, .int .u8 7, .string ⟨#[]⟩] 119)) sp25 ⟨25, (f : Nat), 0, 0, 0, 0, 7⟩ := st_start w sp25 f
  obtain ⟨a0, a2, a3, a4, a5, a6, d2, d3⟩ := cells_25 h0
  go_enter Try.func87, Try.ntmps87
  go_wp2_with (first
    | (go_at_call 99; (with_reducible refine (P0.out _ _ h0).mono ?_); rintro e w1 ⟨rfl, h1⟩; clear P0; obtain ⟨a0, a2, a3, a4, a5, a6, d2, d3⟩ := cells_25 h1))
  go_quiet (fail)
  go_wp2_with (first
    | (go_at_call 99; (with_reducible refine (P1.out _ _ (h1.drewN _)).mono ?_); rintro e w2 ⟨rfl, h2⟩; clear P1; obtain ⟨a0, a2, a3, a4, a5, a6, d2, d3⟩ := cells_25 h2)
    | (go_at_call 99; (with_reducible refine (P2.out _ _ h2).mono ?_); rintro e w3 ⟨rfl, h3⟩; clear P2; obtain ⟨a0, a2, a3, a4, a5, a6, d2, d3⟩ := cells_25 h3)
    | (go_at_call 99; (with_reducible refine (P3.out _ _ h3).mono ?_); rintro e w4 ⟨rfl, h4⟩; clear P3; obtain ⟨a0, a2, a3, a4, a5, a6, d2, d3⟩ := cells_25 h4)
    | (go_at_call 99; (with_reducible refine (P4.out _ _ h4).mono ?_); rintro e w5 ⟨rfl, h5⟩; clear P4; obtain ⟨a0, a2, a3, a4, a5, a6, d2, d3⟩ := cells_25 h5)
    | (refine wpList_load_blk rfl _ _ rfl _ rfl _ _ _ h5.ent Try.underlying119 rfl (by kernel_rfl) ?_)
    | (refine wpList_store_blk rfl _ _ _ rfl _ _ rfl rfl _ _ h5.res (by kernel_rfl) rfl (by simp [Value.oneCell']) ?_))
  exact bodyPost_ret (results_cell rfl _ _ (w.heap.size + 1) _ _ _ rfl (h5.res.row _) Try.underlying119 rfl (by kernel_rfl)) rfl ⟨rfl, below_setRow h5.bel (by omega) _⟩
theorem cells_26 {w W : World} {r : R7} (h : St w W sp26 r) : W.cell? ⟨w.heap.size, 0, none⟩ = some (.int .u8 26) ∧ W.cell? ⟨w.heap.size, 2, none⟩ = some (.int .u32 115) ∧ W.cell? ⟨w.heap.size, 3, none⟩ = some (.int .i64 (-1)) ∧ W.cell? ⟨w.heap.size, 4, none⟩ = some (.int .i64 (1)) ∧ W.cell? ⟨w.heap.size, 5, none⟩ = some (.int .i64 (-1)) ∧ W.cell? ⟨w.heap.size, 6, none⟩ = some (.int .u8 8) ∧ W.cell? ⟨w.heap.size + 1 + 1, 2, none⟩ = some (.int .u8 (r.frm : Nat)) ∧ W.cell? ⟨w.heap.size + 1 + 1, 3, none⟩ = some (.int .u8 (r.kind : Nat)) :=
  ⟨h.sp.cell 0, h.sp.cell 2, h.sp.cell 3, h.sp.cell 4, h.sp.cell 5, h.sp.cell 6, h.ent.cell 2, h.ent.cell 3⟩
theorem one_26 (w : World) (f n : Nat) (hf : f < 4) (hn : n < 4) : Calls Try.prog 87 #[.agg (specV sp26), .int .u8 f, .int .i64 n] w (OneP w (ONE sp26 f n)) := by
  show Calls Try.prog 87 #[.agg #[.int .u8 26, .string ⟨#[99, 115, 114, 114, 119]⟩, .int .u32 115, .int .i64 (-1), .int .i64 (1), .int .i64 (-1), .int .u8 8], .int .u8 f, .int .i64 n] w (OneP w (ONE sp26 f n))
  have P0 : Hid (∀ W r, St w W sp26 r → Calls Try.prog 99 #[.pointer (some ⟨w.heap.size + 1 + 1, 0, none⟩), .int .i64 0, .int .i64 7, .int .u32 115] W fun e W' => e = .returned (.tuple #[]) ∧ St w W' sp26 (pt0 (115) r)) := Lib.hid fun W r h => st_put0 h (115) (by decide)
  have P1 : Hid (∀ W r, St w W sp26 r → Calls Try.prog 99 #[.pointer (some ⟨w.heap.size + 1 + 1, 0, none⟩), .int .i64 12, .int .i64 3, .int .u32 1] W fun e W' => e = .returned (.tuple #[]) ∧ St w W' sp26 (pt12 (1) r)) := Lib.hid fun W r h => st_put12 h (1) (by decide)
  have h0 : St w (((w.alloc (.cells #[.int .u8 26, .string ⟨#[99, 115, 114, 114, 119]⟩, .int .u32 115, .int .i64 (-1), .int .i64 (1), .int .i64 (-1), .int .u8 8] 116)).alloc (.cells #[.int .u8 0, .int .u8 0, .int .u8 0, .int .u8 0, .int .u32 0, .int .u32 0, .int .u8 0, .string ⟨#[]⟩] 119)).alloc (.cells #[.int .u8 26, .int .u8 (f : Nat), .int .u8 0, .int .u8 0, .int .u32 0, .int .u32 0, .int .u8 8, .string ⟨#[]⟩] 119)) sp26 ⟨26, (f : Nat), 0, 0, 0, 0, 8⟩ := st_start w sp26 f
  obtain ⟨a0, a2, a3, a4, a5, a6, d2, d3⟩ := cells_26 h0
  go_enter Try.func87, Try.ntmps87
  go_wp2_with (first
    | (go_at_call 99; (with_reducible refine (P0.out _ _ h0).mono ?_); rintro e w1 ⟨rfl, h1⟩; clear P0; obtain ⟨a0, a2, a3, a4, a5, a6, d2, d3⟩ := cells_26 h1))
  go_quiet (fail)
  go_wp2_with (first
    | (go_at_call 99; (with_reducible refine (P1.out _ _ (h1.drewN _)).mono ?_); rintro e w2 ⟨rfl, h2⟩; clear P1; obtain ⟨a0, a2, a3, a4, a5, a6, d2, d3⟩ := cells_26 h2)
    | (refine wpList_load_blk rfl _ _ rfl _ rfl _ _ _ h2.ent Try.underlying119 rfl (by kernel_rfl) ?_)
    | (refine wpList_store_blk rfl _ _ _ rfl _ _ rfl rfl _ _ h2.res (by kernel_rfl) rfl (by simp [Value.oneCell']) ?_))
  exact bodyPost_ret (results_cell rfl _ _ (w.heap.size + 1) _ _ _ rfl (h2.res.row _) Try.underlying119 rfl (by kernel_rfl)) rfl ⟨rfl, below_setRow h2.bel (by omega) _⟩
theorem cells_27 {w W : World} {r : R7} (h : St w W sp27 r) : W.cell? ⟨w.heap.size, 0, none⟩ = some (.int .u8 27) ∧ W.cell? ⟨w.heap.size, 2, none⟩ = some (.int .u32 115) ∧ W.cell? ⟨w.heap.size, 3, none⟩ = some (.int .i64 (-1)) ∧ W.cell? ⟨w.heap.size, 4, none⟩ = some (.int .i64 (2)) ∧ W.cell? ⟨w.heap.size, 5, none⟩ = some (.int .i64 (-1)) ∧ W.cell? ⟨w.heap.size, 6, none⟩ = some (.int .u8 8) ∧ W.cell? ⟨w.heap.size + 1 + 1, 2, none⟩ = some (.int .u8 (r.frm : Nat)) ∧ W.cell? ⟨w.heap.size + 1 + 1, 3, none⟩ = some (.int .u8 (r.kind : Nat)) :=
  ⟨h.sp.cell 0, h.sp.cell 2, h.sp.cell 3, h.sp.cell 4, h.sp.cell 5, h.sp.cell 6, h.ent.cell 2, h.ent.cell 3⟩
theorem one_27 (w : World) (f n : Nat) (hf : f < 4) (hn : n < 4) : Calls Try.prog 87 #[.agg (specV sp27), .int .u8 f, .int .i64 n] w (OneP w (ONE sp27 f n)) := by
  show Calls Try.prog 87 #[.agg #[.int .u8 27, .string ⟨#[99, 115, 114, 114, 115]⟩, .int .u32 115, .int .i64 (-1), .int .i64 (2), .int .i64 (-1), .int .u8 8], .int .u8 f, .int .i64 n] w (OneP w (ONE sp27 f n))
  have P0 : Hid (∀ W r, St w W sp27 r → Calls Try.prog 99 #[.pointer (some ⟨w.heap.size + 1 + 1, 0, none⟩), .int .i64 0, .int .i64 7, .int .u32 115] W fun e W' => e = .returned (.tuple #[]) ∧ St w W' sp27 (pt0 (115) r)) := Lib.hid fun W r h => st_put0 h (115) (by decide)
  have P1 : Hid (∀ W r, St w W sp27 r → Calls Try.prog 99 #[.pointer (some ⟨w.heap.size + 1 + 1, 0, none⟩), .int .i64 12, .int .i64 3, .int .u32 2] W fun e W' => e = .returned (.tuple #[]) ∧ St w W' sp27 (pt12 (2) r)) := Lib.hid fun W r h => st_put12 h (2) (by decide)
  have h0 : St w (((w.alloc (.cells #[.int .u8 27, .string ⟨#[99, 115, 114, 114, 115]⟩, .int .u32 115, .int .i64 (-1), .int .i64 (2), .int .i64 (-1), .int .u8 8] 116)).alloc (.cells #[.int .u8 0, .int .u8 0, .int .u8 0, .int .u8 0, .int .u32 0, .int .u32 0, .int .u8 0, .string ⟨#[]⟩] 119)).alloc (.cells #[.int .u8 27, .int .u8 (f : Nat), .int .u8 0, .int .u8 0, .int .u32 0, .int .u32 0, .int .u8 8, .string ⟨#[]⟩] 119)) sp27 ⟨27, (f : Nat), 0, 0, 0, 0, 8⟩ := st_start w sp27 f
  obtain ⟨a0, a2, a3, a4, a5, a6, d2, d3⟩ := cells_27 h0
  go_enter Try.func87, Try.ntmps87
  go_wp2_with (first
    | (go_at_call 99; (with_reducible refine (P0.out _ _ h0).mono ?_); rintro e w1 ⟨rfl, h1⟩; clear P0; obtain ⟨a0, a2, a3, a4, a5, a6, d2, d3⟩ := cells_27 h1))
  go_quiet (fail)
  go_wp2_with (first
    | (go_at_call 99; (with_reducible refine (P1.out _ _ (h1.drewN _)).mono ?_); rintro e w2 ⟨rfl, h2⟩; clear P1; obtain ⟨a0, a2, a3, a4, a5, a6, d2, d3⟩ := cells_27 h2)
    | (refine wpList_load_blk rfl _ _ rfl _ rfl _ _ _ h2.ent Try.underlying119 rfl (by kernel_rfl) ?_)
    | (refine wpList_store_blk rfl _ _ _ rfl _ _ rfl rfl _ _ h2.res (by kernel_rfl) rfl (by simp [Value.oneCell']) ?_))
  exact bodyPost_ret (results_cell rfl _ _ (w.heap.size + 1) _ _ _ rfl (h2.res.row _) Try.underlying119 rfl (by kernel_rfl)) rfl ⟨rfl, below_setRow h2.bel (by omega) _⟩
theorem cells_28 {w W : World} {r : R7} (h : St w W sp28 r) : W.cell? ⟨w.heap.size, 0, none⟩ = some (.int .u8 28) ∧ W.cell? ⟨w.heap.size, 2, none⟩ = some (.int .u32 115) ∧ W.cell? ⟨w.heap.size, 3, none⟩ = some (.int .i64 (-1)) ∧ W.cell? ⟨w.heap.size, 4, none⟩ = some (.int .i64 (3)) ∧ W.cell? ⟨w.heap.size, 5, none⟩ = some (.int .i64 (-1)) ∧ W.cell? ⟨w.heap.size, 6, none⟩ = some (.int .u8 8) ∧ W.cell? ⟨w.heap.size + 1 + 1, 2, none⟩ = some (.int .u8 (r.frm : Nat)) ∧ W.cell? ⟨w.heap.size + 1 + 1, 3, none⟩ = some (.int .u8 (r.kind : Nat)) :=
  ⟨h.sp.cell 0, h.sp.cell 2, h.sp.cell 3, h.sp.cell 4, h.sp.cell 5, h.sp.cell 6, h.ent.cell 2, h.ent.cell 3⟩
theorem one_28 (w : World) (f n : Nat) (hf : f < 4) (hn : n < 4) : Calls Try.prog 87 #[.agg (specV sp28), .int .u8 f, .int .i64 n] w (OneP w (ONE sp28 f n)) := by
  show Calls Try.prog 87 #[.agg #[.int .u8 28, .string ⟨#[99, 115, 114, 114, 99]⟩, .int .u32 115, .int .i64 (-1), .int .i64 (3), .int .i64 (-1), .int .u8 8], .int .u8 f, .int .i64 n] w (OneP w (ONE sp28 f n))
  have P0 : Hid (∀ W r, St w W sp28 r → Calls Try.prog 99 #[.pointer (some ⟨w.heap.size + 1 + 1, 0, none⟩), .int .i64 0, .int .i64 7, .int .u32 115] W fun e W' => e = .returned (.tuple #[]) ∧ St w W' sp28 (pt0 (115) r)) := Lib.hid fun W r h => st_put0 h (115) (by decide)
  have P1 : Hid (∀ W r, St w W sp28 r → Calls Try.prog 99 #[.pointer (some ⟨w.heap.size + 1 + 1, 0, none⟩), .int .i64 12, .int .i64 3, .int .u32 3] W fun e W' => e = .returned (.tuple #[]) ∧ St w W' sp28 (pt12 (3) r)) := Lib.hid fun W r h => st_put12 h (3) (by decide)
  have h0 : St w (((w.alloc (.cells #[.int .u8 28, .string ⟨#[99, 115, 114, 114, 99]⟩, .int .u32 115, .int .i64 (-1), .int .i64 (3), .int .i64 (-1), .int .u8 8] 116)).alloc (.cells #[.int .u8 0, .int .u8 0, .int .u8 0, .int .u8 0, .int .u32 0, .int .u32 0, .int .u8 0, .string ⟨#[]⟩] 119)).alloc (.cells #[.int .u8 28, .int .u8 (f : Nat), .int .u8 0, .int .u8 0, .int .u32 0, .int .u32 0, .int .u8 8, .string ⟨#[]⟩] 119)) sp28 ⟨28, (f : Nat), 0, 0, 0, 0, 8⟩ := st_start w sp28 f
  obtain ⟨a0, a2, a3, a4, a5, a6, d2, d3⟩ := cells_28 h0
  go_enter Try.func87, Try.ntmps87
  go_wp2_with (first
    | (go_at_call 99; (with_reducible refine (P0.out _ _ h0).mono ?_); rintro e w1 ⟨rfl, h1⟩; clear P0; obtain ⟨a0, a2, a3, a4, a5, a6, d2, d3⟩ := cells_28 h1))
  go_quiet (fail)
  go_wp2_with (first
    | (go_at_call 99; (with_reducible refine (P1.out _ _ (h1.drewN _)).mono ?_); rintro e w2 ⟨rfl, h2⟩; clear P1; obtain ⟨a0, a2, a3, a4, a5, a6, d2, d3⟩ := cells_28 h2)
    | (refine wpList_load_blk rfl _ _ rfl _ rfl _ _ _ h2.ent Try.underlying119 rfl (by kernel_rfl) ?_)
    | (refine wpList_store_blk rfl _ _ _ rfl _ _ rfl rfl _ _ h2.res (by kernel_rfl) rfl (by simp [Value.oneCell']) ?_))
  exact bodyPost_ret (results_cell rfl _ _ (w.heap.size + 1) _ _ _ rfl (h2.res.row _) Try.underlying119 rfl (by kernel_rfl)) rfl ⟨rfl, below_setRow h2.bel (by omega) _⟩
theorem cells_29 {w W : World} {r : R7} (h : St w W sp29 r) : W.cell? ⟨w.heap.size, 0, none⟩ = some (.int .u8 29) ∧ W.cell? ⟨w.heap.size, 2, none⟩ = some (.int .u32 115) ∧ W.cell? ⟨w.heap.size, 3, none⟩ = some (.int .i64 (-1)) ∧ W.cell? ⟨w.heap.size, 4, none⟩ = some (.int .i64 (5)) ∧ W.cell? ⟨w.heap.size, 5, none⟩ = some (.int .i64 (-1)) ∧ W.cell? ⟨w.heap.size, 6, none⟩ = some (.int .u8 9) ∧ W.cell? ⟨w.heap.size + 1 + 1, 2, none⟩ = some (.int .u8 (r.frm : Nat)) ∧ W.cell? ⟨w.heap.size + 1 + 1, 3, none⟩ = some (.int .u8 (r.kind : Nat)) :=
  ⟨h.sp.cell 0, h.sp.cell 2, h.sp.cell 3, h.sp.cell 4, h.sp.cell 5, h.sp.cell 6, h.ent.cell 2, h.ent.cell 3⟩
theorem one_29 (w : World) (f n : Nat) (hf : f < 4) (hn : n < 4) : Calls Try.prog 87 #[.agg (specV sp29), .int .u8 f, .int .i64 n] w (OneP w (ONE sp29 f n)) := by
  show Calls Try.prog 87 #[.agg #[.int .u8 29, .string ⟨#[99, 115, 114, 114, 119, 105]⟩, .int .u32 115, .int .i64 (-1), .int .i64 (5), .int .i64 (-1), .int .u8 9], .int .u8 f, .int .i64 n] w (OneP w (ONE sp29 f n))
  have P0 : Hid (∀ W r, St w W sp29 r → Calls Try.prog 99 #[.pointer (some ⟨w.heap.size + 1 + 1, 0, none⟩), .int .i64 0, .int .i64 7, .int .u32 115] W fun e W' => e = .returned (.tuple #[]) ∧ St w W' sp29 (pt0 (115) r)) := Lib.hid fun W r h => st_put0 h (115) (by decide)
  have P1 : Hid (∀ W r, St w W sp29 r → Calls Try.prog 99 #[.pointer (some ⟨w.heap.size + 1 + 1, 0, none⟩), .int .i64 12, .int .i64 3, .int .u32 5] W fun e W' => e = .returned (.tuple #[]) ∧ St w W' sp29 (pt12 (5) r)) := Lib.hid fun W r h => st_put12 h (5) (by decide)
  have h0 : St w (((w.alloc (.cells #[.int .u8 29, .string ⟨#[99, 115, 114, 114, 119, 105]⟩, .int .u32 115, .int .i64 (-1), .int .i64 (5), .int .i64 (-1), .int .u8 9] 116)).alloc (.cells #[.int .u8 0, .int .u8 0, .int .u8 0, .int .u8 0, .int .u32 0, .int .u32 0, .int .u8 0, .string ⟨#[]⟩] 119)).alloc (.cells #[.int .u8 29, .int .u8 (f : Nat), .int .u8 0, .int .u8 0, .int .u32 0, .int .u32 0, .int .u8 9, .string ⟨#[]⟩] 119)) sp29 ⟨29, (f : Nat), 0, 0, 0, 0, 9⟩ := st_start w sp29 f
  obtain ⟨a0, a2, a3, a4, a5, a6, d2, d3⟩ := cells_29 h0
  go_enter Try.func87, Try.ntmps87
  go_wp2_with (first
    | (go_at_call 99; (with_reducible refine (P0.out _ _ h0).mono ?_); rintro e w1 ⟨rfl, h1⟩; clear P0; obtain ⟨a0, a2, a3, a4, a5, a6, d2, d3⟩ := cells_29 h1))
  go_quiet (fail)
  go_wp2_with (first
    | (go_at_call 99; (with_reducible refine (P1.out _ _ (h1.drewN _)).mono ?_); rintro e w2 ⟨rfl, h2⟩; clear P1; obtain ⟨a0, a2, a3, a4, a5, a6, d2, d3⟩ := cells_29 h2)
    | (refine wpList_load_blk rfl _ _ rfl _ rfl _ _ _ h2.ent Try.underlying119 rfl (by kernel_rfl) ?_)
    | (refine wpList_store_blk rfl _ _ _ rfl _ _ rfl rfl _ _ h2.res (by kernel_rfl) rfl (by simp [Value.oneCell']) ?_))
  exact bodyPost_ret (results_cell rfl _ _ (w.heap.size + 1) _ _ _ rfl (h2.res.row _) Try.underlying119 rfl (by kernel_rfl)) rfl ⟨rfl, below_setRow h2.bel (by omega) _⟩
theorem cells_30 {w W : World} {r : R7} (h : St w W sp30 r) : W.cell? ⟨w.heap.size, 0, none⟩ = some (.int .u8 30) ∧ W.cell? ⟨w.heap.size, 2, none⟩ = some (.int .u32 115) ∧ W.cell? ⟨w.heap.size, 3, none⟩ = some (.int .i64 (-1)) ∧ W.cell? ⟨w.heap.size, 4, none⟩ = some (.int .i64 (6)) ∧ W.cell? ⟨w.heap.size, 5, none⟩ = some (.int .i64 (-1)) ∧ W.cell? ⟨w.heap.size, 6, none⟩ = some (.int .u8 9) ∧ W.cell? ⟨w.heap.size + 1 + 1, 2, none⟩ = some (.int .u8 (r.frm : Nat)) ∧ W.cell? ⟨w.heap.size + 1 + 1, 3, none⟩ = some (.int .u8 (r.kind : Nat)) :=
  ⟨h.sp.cell 0, h.sp.cell 2, h.sp.cell 3, h.sp.cell 4, h.sp.cell 5, h.sp.cell 6, h.ent.cell 2, h.ent.cell 3⟩
theorem one_30 (w : World) (f n : Nat) (hf : f < 4) (hn : n < 4) : Calls Try.prog 87 #[.agg (specV sp30), .int .u8 f, .int .i64 n] w (OneP w (ONE sp30 f n)) := by
  show Calls Try.prog 87 #[.agg #[.int .u8 30, .string ⟨#[99, 115, 114, 114, 115, 105]⟩, .int .u32 115, .int .i64 (-1), .int .i64 (6), .int .i64 (-1), .int .u8 9], .int .u8 f, .int .i64 n] w (OneP w (ONE sp30 f n))
  have P0 : Hid (∀ W r, St w W sp30 r → Calls Try.prog 99 #[.pointer (some ⟨w.heap.size + 1 + 1, 0, none⟩), .int .i64 0, .int .i64 7, .int .u32 115] W fun e W' => e = .returned (.tuple #[]) ∧ St w W' sp30 (pt0 (115) r)) := Lib.hid fun W r h => st_put0 h (115) (by decide)
  have P1 : Hid (∀ W r, St w W sp30 r → Calls Try.prog 99 #[.pointer (some ⟨w.heap.size + 1 + 1, 0, none⟩), .int .i64 12, .int .i64 3, .int .u32 6] W fun e W' => e = .returned (.tuple #[]) ∧ St w W' sp30 (pt12 (6) r)) := Lib.hid fun W r h => st_put12 h (6) (by decide)
  have h0 : St w (((w.alloc (.cells #[.int .u8 30, .string ⟨#[99, 115, 114, 114, 115, 105]⟩, .int .u32 115, .int .i64 (-1), .int .i64 (6), .int .i64 (-1), .int .u8 9] 116)).alloc (.cells #[.int .u8 0, .int .u8 0, .int .u8 0, .int .u8 0, .int .u32 0, .int .u32 0, .int .u8 0, .string ⟨#[]⟩] 119)).alloc (.cells #[.int .u8 30, .int .u8 (f : Nat), .int .u8 0, .int .u8 0, .int .u32 0, .int .u32 0, .int .u8 9, .string ⟨#[]⟩] 119)) sp30 ⟨30, (f : Nat), 0, 0, 0, 0, 9⟩ := st_start w sp30 f
  obtain ⟨a0, a2, a3, a4, a5, a6, d2, d3⟩ := cells_30 h0
  go_enter Try.func87, Try.ntmps87
  go_wp2_with (first
    | (go_at_call 99; (with_reducible refine (P0.out _ _ h0).mono ?_); rintro e w1 ⟨rfl, h1⟩; clear P0; obtain ⟨a0, a2, a3, a4, a5, a6, d2, d3⟩ := cells_30 h1))
  go_quiet (fail)
  go_wp2_with (first
    | (go_at_call 99; (with_reducible refine (P1.out _ _ (h1.drewN _)).mono ?_); rintro e w2 ⟨rfl, h2⟩; clear P1; obtain ⟨a0, a2, a3, a4, a5, a6, d2, d3⟩ := cells_30 h2)
    | (refine wpList_load_blk rfl _ _ rfl _ rfl _ _ _ h2.ent Try.underlying119 rfl (by kernel_rfl) ?_)
    | (refine wpList_store_blk rfl _ _ _ rfl _ _ rfl rfl _ _ h2.res (by kernel_rfl) rfl (by simp [Value.oneCell']) ?_))
  exact bodyPost_ret (results_cell rfl _ _ (w.heap.size + 1) _ _ _ rfl (h2.res.row _) Try.underlying119 rfl (by kernel_rfl)) rfl ⟨rfl, below_setRow h2.bel (by omega) _⟩
theorem cells_31 {w W : World} {r : R7} (h : St w W sp31 r) : W.cell? ⟨w.heap.size, 0, none⟩ = some (.int .u8 31) ∧ W.cell? ⟨w.heap.size, 2, none⟩ = some (.int .u32 115) ∧ W.cell? ⟨w.heap.size, 3, none⟩ = some (.int .i64 (-1)) ∧ W.cell? ⟨w.heap.size, 4, none⟩ = some (.int .i64 (7)) ∧ W.cell? ⟨w.heap.size, 5, none⟩ = some (.int .i64 (-1)) ∧ W.cell? ⟨w.heap.size, 6, none⟩ = some (.int .u8 9) ∧ W.cell? ⟨w.heap.size + 1 + 1, 2, none⟩ = some (.int .u8 (r.frm : Nat)) ∧ W.cell? ⟨w.heap.size + 1 + 1, 3, none⟩ = some (.int .u8 (r.kind : Nat)) :=
  ⟨h.sp.cell 0, h.sp.cell 2, h.sp.cell 3, h.sp.cell 4, h.sp.cell 5, h.sp.cell 6, h.ent.cell 2, h.ent.cell 3⟩
theorem one_31 (w : World) (f n : Nat) (hf : f < 4) (hn : n < 4) : Calls Try.prog 87 #[.agg (specV sp31), .int .u8 f, .int .i64 n] w (OneP w (ONE sp31 f n)) := by
  show Calls Try.prog 87 #[.agg #[.int .u8 31, .string ⟨#[99, 115, 114, 114, 99, 105]⟩, .int .u32 115, .int .i64 (-1), .int .i64 (7), .int .i64 (-1), .int .u8 9], .int .u8 f, .int .i64 n] w (OneP w (ONE sp31 f n))
  have P0 : Hid (∀ W r, St w W sp31 r → Calls Try.prog 99 #[.pointer (some ⟨w.heap.size + 1 + 1, 0, none⟩), .int .i64 0, .int .i64 7, .int .u32 115] W fun e W' => e = .returned (.tuple #[]) ∧ St w W' sp31 (pt0 (115) r)) := Lib.hid fun W r h => st_put0 h (115) (by decide)
  have P1 : Hid (∀ W r, St w W sp31 r → Calls Try.prog 99 #[.pointer (some ⟨w.heap.size + 1 + 1, 0, none⟩), .int .i64 12, .int .i64 3, .int .u32 7] W fun e W' => e = .returned (.tuple #[]) ∧ St w W' sp31 (pt12 (7) r)) := Lib.hid fun W r h => st_put12 h (7) (by decide)
  have h0 : St w (((w.alloc (.cells #[.int .u8 31, .string ⟨#[99, 115, 114, 114, 99, 105]⟩, .int .u32 115, .int .i64 (-1), .int .i64 (7), .int .i64 (-1), .int .u8 9] 116)).alloc (.cells #[.int .u8 0, .int .u8 0, .int .u8 0, .int .u8 0, .int .u32 0, .int .u32 0, .int .u8 0, .string ⟨#[]⟩] 119)).alloc (.cells #[.int .u8 31, .int .u8 (f : Nat), .int .u8 0, .int .u8 0, .int .u32 0, .int .u32 0, .int .u8 9, .string ⟨#[]⟩] 119)) sp31 ⟨31, (f : Nat), 0, 0, 0, 0, 9⟩ := st_start w sp31 f
  obtain ⟨a0, a2, a3, a4, a5, a6, d2, d3⟩ := cells_31 h0
  go_enter Try.func87, Try.ntmps87
  go_wp2_with (first
    | (go_at_call 99; (with_reducible refine (P0.out _ _ h0).mono ?_); rintro e w1 ⟨rfl, h1⟩; clear P0; obtain ⟨a0, a2, a3, a4, a5, a6, d2, d3⟩ := cells_31 h1))
  go_quiet (fail)
  go_wp2_with (first
    | (go_at_call 99; (with_reducible refine (P1.out _ _ (h1.drewN _)).mono ?_); rintro e w2 ⟨rfl, h2⟩; clear P1; obtain ⟨a0, a2, a3, a4, a5, a6, d2, d3⟩ := cells_31 h2)
    | (refine wpList_load_blk rfl _ _ rfl _ rfl _ _ _ h2.ent Try.underlying119 rfl (by kernel_rfl) ?_)
    | (refine wpList_store_blk rfl _ _ _ rfl _ _ rfl rfl _ _ h2.res (by kernel_rfl) rfl (by simp [Value.oneCell']) ?_))
  exact bodyPost_ret (results_cell rfl _ _ (w.heap.size + 1) _ _ _ rfl (h2.res.row _) Try.underlying119 rfl (by kernel_rfl)) rfl ⟨rfl, below_setRow h2.bel (by omega) _⟩
end Go.Proofs.Ytaddmgclnbkdgaa
