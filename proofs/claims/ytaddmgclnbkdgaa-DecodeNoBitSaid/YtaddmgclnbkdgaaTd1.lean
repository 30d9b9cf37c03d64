/- (table.spec).one at lines of the table. -/
import Derived.Test.YtaddmgclnbkdgaaTc
namespace Go.Proofs.Ytaddmgclnbkdgaa
open Go Go.RowKit
set_option maxHeartbeats 4000000
set_option maxRecDepth 100000
set_option linter.unusedVariables false
set_option linter.unusedSimpArgs false
theorem cells_9 {w W : World} {r : R7} (h : St w W sp9 r) : W.cell? ⟨w.heap.size, 0, none⟩ = some (.int .u8 9) ∧ W.cell? ⟨w.heap.size, 2, none⟩ = some (.int .u32 83) ∧ W.cell? ⟨w.heap.size, 3, none⟩ = some (.int .i64 (2)) ∧ W.cell? ⟨w.heap.size, 4, none⟩ = some (.int .i64 (-1)) ∧ W.cell? ⟨w.heap.size, 5, none⟩ = some (.int .i64 (-1)) ∧ W.cell? ⟨w.heap.size, 6, none⟩ = some (.int .u8 4) ∧ W.cell? ⟨w.heap.size + 1 + 1, 2, none⟩ = some (.int .u8 (r.frm : Nat)) ∧ W.cell? ⟨w.heap.size + 1 + 1, 3, none⟩ = some (.int .u8 (r.kind : Nat)) :=
  ⟨h.sp.cell 0, h.sp.cell 2, h.sp.cell 3, h.sp.cell 4, h.sp.cell 5, h.sp.cell 6, h.ent.cell 2, h.ent.cell 3⟩
theorem one_9 (w : World) (f n : Nat) (hf : f < 4) (hn : n < 4) : Calls Try.prog 87 #[.agg (specV sp9), .int .u8 f, .int .i64 n] w (OneP w (ONE sp9 f n)) := by
  show Calls Try.prog 87 #[.agg #[.int .u8 9, .string ⟨#[102, 109, 117, 108]⟩, .int .u32 83, .int .i64 (2), .int .i64 (-1), .int .i64 (-1), .int .u8 4], .int .u8 f, .int .i64 n] w (OneP w (ONE sp9 f n))
  have P0 : Hid (∀ W r, St w W sp9 r → Calls Try.prog 99 #[.pointer (some ⟨w.heap.size + 1 + 1, 0, none⟩), .int .i64 0, .int .i64 7, .int .u32 83] W fun e W' => e = .returned (.tuple #[]) ∧ St w W' sp9 (pt0 (83) r)) := Lib.hid fun W r h => st_put0 h (83) (by decide)
  have P1 : Hid (∀ W r, St w W sp9 r → Calls Try.prog 99 #[.pointer (some ⟨w.heap.size + 1 + 1, 0, none⟩), .int .i64 25, .int .i64 2, .int .u32 (f : Nat)] W fun e W' => e = .returned (.tuple #[]) ∧ St w W' sp9 (pt25 (f) r)) := Lib.hid fun W r h => st_put25 h (f) (by omega)
  have P2 : Hid (∀ W r, St w W sp9 r → Calls Try.prog 99 #[.pointer (some ⟨w.heap.size + 1 + 1, 0, none⟩), .int .i64 27, .int .i64 5, .int .u32 2] W fun e W' => e = .returned (.tuple #[]) ∧ St w W' sp9 (pt27 (2) r)) := Lib.hid fun W r h => st_put27 h (2) (by decide)
  have h0 : St w (((w.alloc (.cells #[.int .u8 9, .string ⟨#[102, 109, 117, 108]⟩, .int .u32 83, .int .i64 (2), .int .i64 (-1), .int .i64 (-1), .int .u8 4] 116)).alloc (.cells #[.int .u8 0, .int .u8 0, .int .u8 0, .int .u8 0, .int .u32 0, .int .u32 0, .int .u8 0, .string ⟨#[]⟩] 119)).alloc (.cells #[.int .u8 9, .int .u8 (f : Nat), .int .u8 0, .int .u8 0, .int .u32 0, .int .u32 0, .int .u8 4, .string ⟨#[]⟩] 119)) sp9 ⟨9, (f : Nat), 0, 0, 0, 0, 4⟩ := st_start w sp9 f
  obtain ⟨a0, a2, a3, a4, a5, a6, d2, d3⟩ := cells_9 h0
  go_enter Try.func87, Try.ntmps87
  go_wp2_with (first
    | (go_at_call 99; (with_reducible refine (P0.out _ _ h0).mono ?_); rintro e w1 ⟨rfl, h1⟩; clear P0; obtain ⟨a0, a2, a3, a4, a5, a6, d2, d3⟩ := cells_9 h1))
  go_quiet (fail)
  go_wp2_with (first
    | (go_at_call 99; (with_reducible refine (P1.out _ _ (h1.drewN _)).mono ?_); rintro e w2 ⟨rfl, h2⟩; clear P1; obtain ⟨a0, a2, a3, a4, a5, a6, d2, d3⟩ := cells_9 h2)
    | (go_at_call 99; (with_reducible refine (P2.out _ _ h2).mono ?_); rintro e w3 ⟨rfl, h3⟩; clear P2; obtain ⟨a0, a2, a3, a4, a5, a6, d2, d3⟩ := cells_9 h3)
    | (refine wpList_load_blk rfl _ _ rfl _ rfl _ _ _ h3.ent Try.underlying119 rfl (by kernel_rfl) ?_)
    | (refine wpList_store_blk rfl _ _ _ rfl _ _ rfl rfl _ _ h3.res (by kernel_rfl) rfl (by simp [Value.oneCell']) ?_))
  exact bodyPost_ret (results_cell rfl _ _ (w.heap.size + 1) _ _ _ rfl (h3.res.row _) Try.underlying119 rfl (by kernel_rfl)) rfl ⟨rfl, below_setRow h3.bel (by omega) _⟩
theorem cells_10 {w W : World} {r : R7} (h : St w W sp10 r) : W.cell? ⟨w.heap.size, 0, none⟩ = some (.int .u8 10) ∧ W.cell? ⟨w.heap.size, 2, none⟩ = some (.int .u32 83) ∧ W.cell? ⟨w.heap.size, 3, none⟩ = some (.int .i64 (3)) ∧ W.cell? ⟨w.heap.size, 4, none⟩ = some (.int .i64 (-1)) ∧ W.cell? ⟨w.heap.size, 5, none⟩ = some (.int .i64 (-1)) ∧ W.cell? ⟨w.heap.size, 6, none⟩ = some (.int .u8 4) ∧ W.cell? ⟨w.heap.size + 1 + 1, 2, none⟩ = some (.int .u8 (r.frm : Nat)) ∧ W.cell? ⟨w.heap.size + 1 + 1, 3, none⟩ = some (.int .u8 (r.kind : Nat)) :=
  ⟨h.sp.cell 0, h.sp.cell 2, h.sp.cell 3, h.sp.cell 4, h.sp.cell 5, h.sp.cell 6, h.ent.cell 2, h.ent.cell 3⟩
theorem one_10 (w : World) (f n : Nat) (hf : f < 4) (hn : n < 4) : Calls Try.prog 87 #[.agg (specV sp10), .int .u8 f, .int .i64 n] w (OneP w (ONE sp10 f n)) := by
  show Calls Try.prog 87 #[.agg #[.int .u8 10, .string ⟨#[102, 100, 105, 118]⟩, .int .u32 83, .int .i64 (3), .int .i64 (-1), .int .i64 (-1), .int .u8 4], .int .u8 f, .int .i64 n] w (OneP w (ONE sp10 f n))
  have P0 : Hid (∀ W r, St w W sp10 r → Calls Try.prog 99 #[.pointer (some ⟨w.heap.size + 1 + 1, 0, none⟩), .int .i64 0, .int .i64 7, .int .u32 83] W fun e W' => e = .returned (.tuple #[]) ∧ St w W' sp10 (pt0 (83) r)) := Lib.hid fun W r h => st_put0 h (83) (by decide)
  have P1 : Hid (∀ W r, St w W sp10 r → Calls Try.prog 99 #[.pointer (some ⟨w.heap.size + 1 + 1, 0, none⟩), .int .i64 25, .int .i64 2, .int .u32 (f : Nat)] W fun e W' => e = .returned (.tuple #[]) ∧ St w W' sp10 (pt25 (f) r)) := Lib.hid fun W r h => st_put25 h (f) (by omega)
  have P2 : Hid (∀ W r, St w W sp10 r → Calls Try.prog 99 #[.pointer (some ⟨w.heap.size + 1 + 1, 0, none⟩), .int .i64 27, .int .i64 5, .int .u32 3] W fun e W' => e = .returned (.tuple #[]) ∧ St w W' sp10 (pt27 (3) r)) := Lib.hid fun W r h => st_put27 h (3) (by decide)
  have h0 : St w (((w.alloc (.cells #[.int .u8 10, .string ⟨#[102, 100, 105, 118]⟩, .int .u32 83, .int .i64 (3), .int .i64 (-1), .int .i64 (-1), .int .u8 4] 116)).alloc (.cells #[.int .u8 0, .int .u8 0, .int .u8 0, .int .u8 0, .int .u32 0, .int .u32 0, .int .u8 0, .string ⟨#[]⟩] 119)).alloc (.cells #[.int .u8 10, .int .u8 (f : Nat), .int .u8 0, .int .u8 0, .int .u32 0, .int .u32 0, .int .u8 4, .string ⟨#[]⟩] 119)) sp10 ⟨10, (f : Nat), 0, 0, 0, 0, 4⟩ := st_start w sp10 f
  obtain ⟨a0, a2, a3, a4, a5, a6, d2, d3⟩ := cells_10 h0
  go_enter Try.func87, Try.ntmps87
  go_wp2_with (first
    | (go_at_call 99; (with_reducible refine (P0.out _ _ h0).mono ?_); rintro e w1 ⟨rfl, h1⟩; clear P0; obtain ⟨a0, a2, a3, a4, a5, a6, d2, d3⟩ := cells_10 h1))
  go_quiet (fail)
  go_wp2_with (first
    | (go_at_call 99; (with_reducible refine (P1.out _ _ (h1.drewN _)).mono ?_); rintro e w2 ⟨rfl, h2⟩; clear P1; obtain ⟨a0, a2, a3, a4, a5, a6, d2, d3⟩ := cells_10 h2)
    | (go_at_call 99; (with_reducible refine (P2.out _ _ h2).mono ?_); rintro e w3 ⟨rfl, h3⟩; clear P2; obtain ⟨a0, a2, a3, a4, a5, a6, d2, d3⟩ := cells_10 h3)
    | (refine wpList_load_blk rfl _ _ rfl _ rfl _ _ _ h3.ent Try.underlying119 rfl (by kernel_rfl) ?_)
    | (refine wpList_store_blk rfl _ _ _ rfl _ _ rfl rfl _ _ h3.res (by kernel_rfl) rfl (by simp [Value.oneCell']) ?_))
  exact bodyPost_ret (results_cell rfl _ _ (w.heap.size + 1) _ _ _ rfl (h3.res.row _) Try.underlying119 rfl (by kernel_rfl)) rfl ⟨rfl, below_setRow h3.bel (by omega) _⟩
theorem cells_11 {w W : World} {r : R7} (h : St w W sp11 r) : W.cell? ⟨w.heap.size, 0, none⟩ = some (.int .u8 11) ∧ W.cell? ⟨w.heap.size, 2, none⟩ = some (.int .u32 83) ∧ W.cell? ⟨w.heap.size, 3, none⟩ = some (.int .i64 (11)) ∧ W.cell? ⟨w.heap.size, 4, none⟩ = some (.int .i64 (-1)) ∧ W.cell? ⟨w.heap.size, 5, none⟩ = some (.int .i64 (0)) ∧ W.cell? ⟨w.heap.size, 6, none⟩ = some (.int .u8 6) ∧ W.cell? ⟨w.heap.size + 1 + 1, 2, none⟩ = some (.int .u8 (r.frm : Nat)) ∧ W.cell? ⟨w.heap.size + 1 + 1, 3, none⟩ = some (.int .u8 (r.kind : Nat)) :=
  ⟨h.sp.cell 0, h.sp.cell 2, h.sp.cell 3, h.sp.cell 4, h.sp.cell 5, h.sp.cell 6, h.ent.cell 2, h.ent.cell 3⟩
theorem one_11 (w : World) (f n : Nat) (hf : f < 4) (hn : n < 4) : Calls Try.prog 87 #[.agg (specV sp11), .int .u8 f, .int .i64 n] w (OneP w (ONE sp11 f n)) := by
  show Calls Try.prog 87 #[.agg #[.int .u8 11, .string ⟨#[102, 115, 113, 114, 116]⟩, .int .u32 83, .int .i64 (11), .int .i64 (-1), .int .i64 (0), .int .u8 6], .int .u8 f, .int .i64 n] w (OneP w (ONE sp11 f n))
  have P0 : Hid (∀ W r, St w W sp11 r → Calls Try.prog 99 #[.pointer (some ⟨w.heap.size + 1 + 1, 0, none⟩), .int .i64 0, .int .i64 7, .int .u32 83] W fun e W' => e = .returned (.tuple #[]) ∧ St w W' sp11 (pt0 (83) r)) := Lib.hid fun W r h => st_put0 h (83) (by decide)
  have P1 : Hid (∀ W r, St w W sp11 r → Calls Try.prog 99 #[.pointer (some ⟨w.heap.size + 1 + 1, 0, none⟩), .int .i64 25, .int .i64 2, .int .u32 (f : Nat)] W fun e W' => e = .returned (.tuple #[]) ∧ St w W' sp11 (pt25 (f) r)) := Lib.hid fun W r h => st_put25 h (f) (by omega)
  have P2 : Hid (∀ W r, St w W sp11 r → Calls Try.prog 99 #[.pointer (some ⟨w.heap.size + 1 + 1, 0, none⟩), .int .i64 27, .int .i64 5, .int .u32 11] W fun e W' => e = .returned (.tuple #[]) ∧ St w W' sp11 (pt27 (11) r)) := Lib.hid fun W r h => st_put27 h (11) (by decide)
  have P3 : Hid (∀ W r, St w W sp11 r → Calls Try.prog 99 #[.pointer (some ⟨w.heap.size + 1 + 1, 0, none⟩), .int .i64 20, .int .i64 5, .int .u32 0] W fun e W' => e = .returned (.tuple #[]) ∧ St w W' sp11 (pt20 (0) r)) := Lib.hid fun W r h => st_put20 h (0) (by decide)
  have h0 : St w (((w.alloc (.cells #[.int .u8 11, .string ⟨#[102, 115, 113, 114, 116]⟩, .int .u32 83, .int .i64 (11), .int .i64 (-1), .int .i64 (0), .int .u8 6] 116)).alloc (.cells #[.int .u8 0, .int .u8 0, .int .u8 0, .int .u8 0, .int .u32 0, .int .u32 0, .int .u8 0, .string ⟨#[]⟩] 119)).alloc (.cells #[.int .u8 11, .int .u8 (f : Nat), .int .u8 0, .int .u8 0, .int .u32 0, .int .u32 0, .int .u8 6, .string ⟨#[]⟩] 119)) sp11 ⟨11, (f : Nat), 0, 0, 0, 0, 6⟩ := st_start w sp11 f
  obtain ⟨a0, a2, a3, a4, a5, a6, d2, d3⟩ := cells_11 h0
  go_enter Try.func87, Try.ntmps87
  go_wp2_with (first
    | (go_at_call 99; (with_reducible refine (P0.out _ _ h0).mono ?_); rintro e w1 ⟨rfl, h1⟩; clear P0; obtain ⟨a0, a2, a3, a4, a5, a6, d2, d3⟩ := cells_11 h1))
  go_quiet (fail)
  go_wp2_with (first
    | (go_at_call 99; (with_reducible refine (P1.out _ _ (h1.drewN _)).mono ?_); rintro e w2 ⟨rfl, h2⟩; clear P1; obtain ⟨a0, a2, a3, a4, a5, a6, d2, d3⟩ := cells_11 h2)
    | (go_at_call 99; (with_reducible refine (P2.out _ _ h2).mono ?_); rintro e w3 ⟨rfl, h3⟩; clear P2; obtain ⟨a0, a2, a3, a4, a5, a6, d2, d3⟩ := cells_11 h3)
    | (go_at_call 99; (with_reducible refine (P3.out _ _ h3).mono ?_); rintro e w4 ⟨rfl, h4⟩; clear P3; obtain ⟨a0, a2, a3, a4, a5, a6, d2, d3⟩ := cells_11 h4)
    | (refine wpList_load_blk rfl _ _ rfl _ rfl _ _ _ h4.ent Try.underlying119 rfl (by kernel_rfl) ?_)
    | (refine wpList_store_blk rfl _ _ _ rfl _ _ rfl rfl _ _ h4.res (by kernel_rfl) rfl (by simp [Value.oneCell']) ?_))
  exact bodyPost_ret (results_cell rfl _ _ (w.heap.size + 1) _ _ _ rfl (h4.res.row _) Try.underlying119 rfl (by kernel_rfl)) rfl ⟨rfl, below_setRow h4.bel (by omega) _⟩
theorem cells_12 {w W : World} {r : R7} (h : St w W sp12 r) : W.cell? ⟨w.heap.size, 0, none⟩ = some (.int .u8 12) ∧ W.cell? ⟨w.heap.size, 2, none⟩ = some (.int .u32 83) ∧ W.cell? ⟨w.heap.size, 3, none⟩ = some (.int .i64 (4)) ∧ W.cell? ⟨w.heap.size, 4, none⟩ = some (.int .i64 (0)) ∧ W.cell? ⟨w.heap.size, 5, none⟩ = some (.int .i64 (-1)) ∧ W.cell? ⟨w.heap.size, 6, none⟩ = some (.int .u8 5) ∧ W.cell? ⟨w.heap.size + 1 + 1, 2, none⟩ = some (.int .u8 (r.frm : Nat)) ∧ W.cell? ⟨w.heap.size + 1 + 1, 3, none⟩ = some (.int .u8 (r.kind : Nat)) :=
  ⟨h.sp.cell 0, h.sp.cell 2, h.sp.cell 3, h.sp.cell 4, h.sp.cell 5, h.sp.cell 6, h.ent.cell 2, h.ent.cell 3⟩
theorem one_12 (w : World) (f n : Nat) (hf : f < 4) (hn : n < 4) : Calls Try.prog 87 #[.agg (specV sp12), .int .u8 f, .int .i64 n] w (OneP w (ONE sp12 f n)) := by
  show Calls Try.prog 87 #[.agg #[.int .u8 12, .string ⟨#[102, 115, 103, 110, 106]⟩, .int .u32 83, .int .i64 (4), .int .i64 (0), .int .i64 (-1), .int .u8 5], .int .u8 f, .int .i64 n] w (OneP w (ONE sp12 f n))
  have P0 : Hid (∀ W r, St w W sp12 r → Calls Try.prog 99 #[.pointer (some ⟨w.heap.size + 1 + 1, 0, none⟩), .int .i64 0, .int .i64 7, .int .u32 83] W fun e W' => e = .returned (.tuple #[]) ∧ St w W' sp12 (pt0 (83) r)) := Lib.hid fun W r h => st_put0 h (83) (by decide)
  have P1 : Hid (∀ W r, St w W sp12 r → Calls Try.prog 99 #[.pointer (some ⟨w.heap.size + 1 + 1, 0, none⟩), .int .i64 25, .int .i64 2, .int .u32 (f : Nat)] W fun e W' => e = .returned (.tuple #[]) ∧ St w W' sp12 (pt25 (f) r)) := Lib.hid fun W r h => st_put25 h (f) (by omega)
  have P2 : Hid (∀ W r, St w W sp12 r → Calls Try.prog 99 #[.pointer (some ⟨w.heap.size + 1 + 1, 0, none⟩), .int .i64 27, .int .i64 5, .int .u32 4] W fun e W' => e = .returned (.tuple #[]) ∧ St w W' sp12 (pt27 (4) r)) := Lib.hid fun W r h => st_put27 h (4) (by decide)
  have P3 : Hid (∀ W r, St w W sp12 r → Calls Try.prog 99 #[.pointer (some ⟨w.heap.size + 1 + 1, 0, none⟩), .int .i64 12, .int .i64 3, .int .u32 0] W fun e W' => e = .returned (.tuple #[]) ∧ St w W' sp12 (pt12 (0) r)) := Lib.hid fun W r h => st_put12 h (0) (by decide)
  have h0 : St w (((w.alloc (.cells #[.int .u8 12, .string ⟨#[102, 115, 103, 110, 106]⟩, .int .u32 83, .int .i64 (4), .int .i64 (0), .int .i64 (-1), .int .u8 5] 116)).alloc (.cells #[.int .u8 0, .int .u8 0, .int .u8 0, .int .u8 0, .int .u32 0, .int .u32 0, .int .u8 0, .string ⟨#[]⟩] 119)).alloc (.cells #[.int .u8 12, .int .u8 (f : Nat), .int .u8 0, .int .u8 0, .int .u32 0, .int .u32 0, .int .u8 5, .string ⟨#[]⟩] 119)) sp12 ⟨12, (f : Nat), 0, 0, 0, 0, 5⟩ := st_start w sp12 f
  obtain ⟨a0, a2, a3, a4, a5, a6, d2, d3⟩ := cells_12 h0
  go_enter Try.func87, Try.ntmps87
  go_wp2_with (first
    | (go_at_call 99; (with_reducible refine (P0.out _ _ h0).mono ?_); rintro e w1 ⟨rfl, h1⟩; clear P0; obtain ⟨a0, a2, a3, a4, a5, a6, d2, d3⟩ := cells_12 h1))
  go_quiet (fail)
  go_wp2_with (first
    | (go_at_call 99; (with_reducible refine (P1.out _ _ (h1.drewN _)).mono ?_); rintro e w2 ⟨rfl, h2⟩; clear P1; obtain ⟨a0, a2, a3, a4, a5, a6, d2, d3⟩ := cells_12 h2)
    | (go_at_call 99; (with_reducible refine (P2.out _ _ h2).mono ?_); rintro e w3 ⟨rfl, h3⟩; clear P2; obtain ⟨a0, a2, a3, a4, a5, a6, d2, d3⟩ := cells_12 h3)
    | (go_at_call 99; (with_reducible refine (P3.out _ _ h3).mono ?_); rintro e w4 ⟨rfl, h4⟩; clear P3; obtain ⟨a0, a2, a3, a4, a5, a6, d2, d3⟩ := cells_12 h4)
    | (refine wpList_load_blk rfl _ _ rfl _ rfl _ _ _ h4.ent Try.underlying119 rfl (by kernel_rfl) ?_)
    | (refine wpList_store_blk rfl _ _ _ rfl _ _ rfl rfl _ _ h4.res (by kernel_rfl) rfl (by simp [Value.oneCell']) ?_))
  exact bodyPost_ret (results_cell rfl _ _ (w.heap.size + 1) _ _ _ rfl (h4.res.row _) Try.underlying119 rfl (by kernel_rfl)) rfl ⟨rfl, below_setRow h4.bel (by omega) _⟩
theorem cells_13 {w W : World} {r : R7} (h : St w W sp13 r) : W.cell? ⟨w.heap.size, 0, none⟩ = some (.int .u8 13) ∧ W.cell? ⟨w.heap.size, 2, none⟩ = some (.int .u32 83) ∧ W.cell? ⟨w.heap.size, 3, none⟩ = some (.int .i64 (4)) ∧ W.cell? ⟨w.heap.size, 4, none⟩ = some (.int .i64 (1)) ∧ W.cell? ⟨w.heap.size, 5, none⟩ = some (.int .i64 (-1)) ∧ W.cell? ⟨w.heap.size, 6, none⟩ = some (.int .u8 5) ∧ W.cell? ⟨w.heap.size + 1 + 1, 2, none⟩ = some (.int .u8 (r.frm : Nat)) ∧ W.cell? ⟨w.heap.size + 1 + 1, 3, none⟩ = some (.int .u8 (r.kind : Nat)) :=
  ⟨h.sp.cell 0, h.sp.cell 2, h.sp.cell 3, h.sp.cell 4, h.sp.cell 5, h.sp.cell 6, h.ent.cell 2, h.ent.cell 3⟩
theorem one_13 (w : World) (f n : Nat) (hf : f < 4) (hn : n < 4) : Calls Try.prog 87 #[.agg (specV sp13), .int .u8 f, .int .i64 n] w (OneP w (ONE sp13 f n)) := by
  show Calls Try.prog 87 #[.agg #[.int .u8 13, .string ⟨#[102, 115, 103, 110, 106, 110]⟩, .int .u32 83, .int .i64 (4), .int .i64 (1), .int .i64 (-1), .int .u8 5], .int .u8 f, .int .i64 n] w (OneP w (ONE sp13 f n))
  have P0 : Hid (∀ W r, St w W sp13 r → Calls Try.prog 99 #[.pointer (some ⟨w.heap.size + 1 + 1, 0, none⟩), .int .i64 0, .int .i64 7, .int .u32 83] W fun e W' => e = .returned (.tuple #[]) ∧ St w W' sp13 (pt0 (83) r)) := Lib.hid fun W r h => st_put0 h (83) (by decide)
  have P1 : Hid (∀ W r, St w W sp13 r → Calls Try.prog 99 #[.pointer (some ⟨w.heap.size + 1 + 1, 0, none⟩), .int .i64 25, .int .i64 2, .int .u32 (f : Nat)] W fun e W' => e = .returned (.tuple #[]) ∧ St w W' sp13 (pt25 (f) r)) := Lib.hid fun W r h => st_put25 h (f) (by omega)
  have P2 : Hid (∀ W r, St w W sp13 r → Calls Try.prog 99 #[.pointer (some ⟨w.heap.size + 1 + 1, 0, none⟩), .int .i64 27, .int .i64 5, .int .u32 4] W fun e W' => e = .returned (.tuple #[]) ∧ St w W' sp13 (pt27 (4) r)) := Lib.hid fun W r h => st_put27 h (4) (by decide)
  have P3 : Hid (∀ W r, St w W sp13 r → Calls Try.prog 99 #[.pointer (some ⟨w.heap.size + 1 + 1, 0, none⟩), .int .i64 12, .int .i64 3, .int .u32 1] W fun e W' => e = .returned (.tuple #[]) ∧ St w W' sp13 (pt12 (1) r)) := Lib.hid fun W r h => st_put12 h (1) (by decide)
  have h0 : St w (((w.alloc (.cells #[.int .u8 13, .string ⟨#[102, 115, 103, 110, 106, 110]⟩, .int .u32 83, .int .i64 (4), .int .i64 (1), .int .i64 (-1), .int .u8 5] 116)).alloc (.cells #[.int .u8 0, .int .u8 0, .int .u8 0, .int .u8 0, .int .u32 0, .int .u32 0, .int .u8 0, .string ⟨#[]⟩] 119)).alloc (.cells #[.int .u8 13, .int .u8 (f : Nat), .int .u8 0, .int .u8 0, .int .u32 0, .int .u32 0, .int .u8 5, .string ⟨#[]⟩] 119)) sp13 ⟨13, (f : Nat), 0, 0, 0, 0, 5⟩ := st_start w sp13 f
  obtain ⟨a0, a2, a3, a4, a5, a6, d2, d3⟩ := cells_13 h0
  go_enter Try.func87, Try.ntmps87
  go_wp2_with (first
    | (go_at_call 99; (with_reducible refine (P0.out _ _ h0).mono ?_); rintro e w1 ⟨rfl, h1⟩; clear P0; obtain ⟨a0, a2, a3, a4, a5, a6, d2, d3⟩ := cells_13 h1))
  go_quiet (fail)
  go_wp2_with (first
    | (go_at_call 99; (with_reducible refine (P1.out _ _ (h1.drewN _)).mono ?_); rintro e w2 ⟨rfl, h2⟩; clear P1; obtain ⟨a0, a2, a3, a4, a5, a6, d2, d3⟩ := cells_13 h2)
    | (go_at_call 99; (with_reducible refine (P2.out _ _ h2).mono ?_); rintro e w3 ⟨rfl, h3⟩; clear P2; obtain ⟨a0, a2, a3, a4, a5, a6, d2, d3⟩ := cells_13 h3)
    | (go_at_call 99; (with_reducible refine (P3.out _ _ h3).mono ?_); rintro e w4 ⟨rfl, h4⟩; clear P3; obtain ⟨a0, a2, a3, a4, a5, a6, d2, d3⟩ := cells_13 h4)
    | (refine wpList_load_blk rfl _ _ rfl _ rfl _ _ _ h4.ent Try.underlying119 rfl (by kernel_rfl) ?_)
    | (refine wpList_store_blk rfl _ _ _ rfl _ _ rfl rfl _ _ h4.res (by kernel_rfl) rfl (by simp [Value.oneCell']) ?_))
  exact bodyPost_ret (results_cell rfl _ _ (w.heap.size + 1) _ _ _ rfl (h4.res.row _) Try.underlying119 rfl (by kernel_rfl)) rfl ⟨rfl, below_setRow h4.bel (by omega) _⟩
theorem cells_14 {w W : World} {r : R7} (h : St w W sp14 r) : W.cell? ⟨w.heap.size, 0, none⟩ = some (.int .u8 14) ∧ W.cell? ⟨w.heap.size, 2, none⟩ = some (.int .u32 83) ∧ W.cell? ⟨w.heap.size, 3, none⟩ = some (.int .i64 (4)) ∧ W.cell? ⟨w.heap.size, 4, none⟩ = some (.int .i64 (2)) ∧ W.cell? ⟨w.heap.size, 5, none⟩ = some (.int .i64 (-1)) ∧ W.cell? ⟨w.heap.size, 6, none⟩ = some (.int .u8 5) ∧ W.cell? ⟨w.heap.size + 1 + 1, 2, none⟩ = some (.int .u8 (r.frm : Nat)) ∧ W.cell? ⟨w.heap.size + 1 + 1, 3, none⟩ = some (.int .u8 (r.kind : Nat)) :=
  ⟨h.sp.cell 0, h.sp.cell 2, h.sp.cell 3, h.sp.cell 4, h.sp.cell 5, h.sp.cell 6, h.ent.cell 2, h.ent.cell 3⟩
theorem one_14 (w : World) (f n : Nat) (hf : f < 4) (hn : n < 4) : Calls Try.prog 87 #[.agg (specV sp14), .int .u8 f, .int .i64 n] w (OneP w (ONE sp14 f n)) := by
  show Calls Try.prog 87 #[.agg #[.int .u8 14, .string ⟨#[102, 115, 103, 110, 106, 120]⟩, .int .u32 83, .int .i64 (4), .int .i64 (2), .int .i64 (-1), .int .u8 5], .int .u8 f, .int .i64 n] w (OneP w (ONE sp14 f n))
  have P0 : Hid (∀ W r, St w W sp14 r → Calls Try.prog 99 #[.pointer (some ⟨w.heap.size + 1 + 1, 0, none⟩), .int .i64 0, .int .i64 7, .int .u32 83] W fun e W' => e = .returned (.tuple #[]) ∧ St w W' sp14 (pt0 (83) r)) := Lib.hid fun W r h => st_put0 h (83) (by decide)
  have P1 : Hid (∀ W r, St w W sp14 r → Calls Try.prog 99 #[.pointer (some ⟨w.heap.size + 1 + 1, 0, none⟩), .int .i64 25, .int .i64 2, .int .u32 (f : Nat)] W fun e W' => e = .returned (.tuple #[]) ∧ St w W' sp14 (pt25 (f) r)) := Lib.hid fun W r h => st_put25 h (f) (by omega)
  have P2 : Hid (∀ W r, St w W sp14 r → Calls Try.prog 99 #[.pointer (some ⟨w.heap.size + 1 + 1, 0, none⟩), .int .i64 27, .int .i64 5, .int .u32 4] W fun e W' => e = .returned (.tuple #[]) ∧ St w W' sp14 (pt27 (4) r)) := Lib.hid fun W r h => st_put27 h (4) (by decide)
  have P3 : Hid (∀ W r, St w W sp14 r → Calls Try.prog 99 #[.pointer (some ⟨w.heap.size + 1 + 1, 0, none⟩), .int .i64 12, .int .i64 3, .int .u32 2] W fun e W' => e = .returned (.tuple #[]) ∧ St w W' sp14 (pt12 (2) r)) := Lib.hid fun W r h => st_put12 h (2) (by decide)
  have h0 : St w (((w.alloc (.cells #[.int .u8 14, .string ⟨#[102, 115, 103, 110, 106, 120]⟩, .int .u32 83, .int .i64 (4), .int .i64 (2), .int .i64 (-1), .int .u8 5] 116)).alloc (.cells #[.int .u8 0, .int .u8 0, .int .u8 0, .int .u8 0, .int .u32 0, .int .u32 0, .int .u8 0, .string ⟨#[]⟩] 119)).alloc (.cells #[.int .u8 14, .int .u8 (f : Nat), .int .u8 0, .int .u8 0, .int .u32 0, .int .u32 0, .int .u8 5, .string ⟨#[]⟩] 119)) sp14 ⟨14, (f : Nat), 0, 0, 0, 0, 5⟩ := st_start w sp14 f
  obtain ⟨a0, a2, a3, a4, a5, a6, d2, d3⟩ := cells_14 h0
  go_enter Try.func87, Try.ntmps87
  go_wp2_with (first
    | (go_at_call 99; (with_reducible refine (P0.out _ _ h0).mono ?_); rintro e w1 ⟨rfl, h1⟩; clear P0; obtain ⟨a0, a2, a3, a4, a5, a6, d2, d3⟩ := cells_14 h1))
  go_quiet (fail)
  go_wp2_with (first
    | (go_at_call 99; (with_reducible refine (P1.out _ _ (h1.drewN _)).mono ?_); rintro e w2 ⟨rfl, h2⟩; clear P1; obtain ⟨a0, a2, a3, a4, a5, a6, d2, d3⟩ := cells_14 h2)
    | (go_at_call 99; (with_reducible refine (P2.out _ _ h2).mono ?_); rintro e w3 ⟨rfl, h3⟩; clear P2; obtain ⟨a0, a2, a3, a4, a5, a6, d2, d3⟩ := cells_14 h3)
    | (go_at_call 99; (with_reducible refine (P3.out _ _ h3).mono ?_); rintro e w4 ⟨rfl, h4⟩; clear P3; obtain ⟨a0, a2, a3, a4, a5, a6, d2, d3⟩ := cells_14 h4)
    | (refine wpList_load_blk rfl _ _ rfl _ rfl _ _ _ h4.ent Try.underlying119 rfl (by kernel_rfl) ?_)
    | (refine wpList_store_blk rfl _ _ _ rfl _ _ rfl rfl _ _ h4.res (by kernel_rfl) rfl (by simp [Value.oneCell']) ?_))
  exact bodyPost_ret (results_cell rfl _ _ (w.heap.size + 1) _ _ _ rfl (h4.res.row _) Try.underlying119 rfl (by kernel_rfl)) rfl ⟨rfl, below_setRow h4.bel (by omega) _⟩
theorem cells_15 {w W : World} {r : R7} (h : St w W sp15 r) : W.cell? ⟨w.heap.size, 0, none⟩ = some (.int .u8 15) ∧ W.cell? ⟨w.heap.size, 2, none⟩ = some (.int .u32 83) ∧ W.cell? ⟨w.heap.size, 3, none⟩ = some (.int .i64 (5)) ∧ W.cell? ⟨w.heap.size, 4, none⟩ = some (.int .i64 (0)) ∧ W.cell? ⟨w.heap.size, 5, none⟩ = some (.int .i64 (-1)) ∧ W.cell? ⟨w.heap.size, 6, none⟩ = some (.int .u8 5) ∧ W.cell? ⟨w.heap.size + 1 + 1, 2, none⟩ = some (.int .u8 (r.frm : Nat)) ∧ W.cell? ⟨w.heap.size + 1 + 1, 3, none⟩ = some (.int .u8 (r.kind : Nat)) :=
  ⟨h.sp.cell 0, h.sp.cell 2, h.sp.cell 3, h.sp.cell 4, h.sp.cell 5, h.sp.cell 6, h.ent.cell 2, h.ent.cell 3⟩
theorem one_15 (w : World) (f n : Nat) (hf : f < 4) (hn : n < 4) : Calls Try.prog 87 #[.agg (specV sp15), .int .u8 f, .int .i64 n] w (OneP w (ONE sp15 f n)) := by
  show Calls Try.prog 87 #[.agg #[.int .u8 15, .string ⟨#[102, 109, 105, 110]⟩, .int .u32 83, .int .i64 (5), .int .i64 (0), .int .i64 (-1), .int .u8 5], .int .u8 f, .int .i64 n] w (OneP w (ONE sp15 f n))
  have P0 : Hid (∀ W r, St w W sp15 r → Calls Try.prog 99 #[.pointer (some ⟨w.heap.size + 1 + 1, 0, none⟩), .int .i64 0, .int .i64 7, .int .u32 83] W fun e W' => e = .returned (.tuple #[]) ∧ St w W' sp15 (pt0 (83) r)) := Lib.hid fun W r h => st_put0 h (83) (by decide)
  have P1 : Hid (∀ W r, St w W sp15 r → Calls Try.prog 99 #[.pointer (some ⟨w.heap.size + 1 + 1, 0, none⟩), .int .i64 25, .int .i64 2, .int .u32 (f : Nat)] W fun e W' => e = .returned (.tuple #[]) ∧ St w W' sp15 (pt25 (f) r)) := Lib.hid fun W r h => st_put25 h (f) (by omega)
  have P2 : Hid (∀ W r, St w W sp15 r → Calls Try.prog 99 #[.pointer (some ⟨w.heap.size + 1 + 1, 0, none⟩), .int .i64 27, .int .i64 5, .int .u32 5] W fun e W' => e = .returned (.tuple #[]) ∧ St w W' sp15 (pt27 (5) r)) := Lib.hid fun W r h => st_put27 h (5) (by decide)
  have P3 : Hid (∀ W r, St w W sp15 r → Calls Try.prog 99 #[.pointer (some ⟨w.heap.size + 1 + 1, 0, none⟩), .int .i64 12, .int .i64 3, .int .u32 0] W fun e W' => e = .returned (.tuple #[]) ∧ St w W' sp15 (pt12 (0) r)) := Lib.hid fun W r h => st_put12 h (0) (by decide)
  have h0 : St w (((w.alloc (.cells #[.int .u8 15, .string ⟨#[102, 109, 105, 110]⟩, .int .u32 83, .int .i64 (5), .int .i64 (0), .int .i64 (-1), .int .u8 5] 116)).alloc (.cells #[.int .u8 0, .int .u8 0, .int .u8 0, .int .u8 0, .int .u32 0, .int .u32 0, .int .u8 0, .string ⟨#[]⟩] 119)).alloc (.cells #[.int .u8 15, .int .u8 (f : Nat), .int .u8 0, .int .u8 0, .int .u32 0, .int .u32 0, .int .u8 5, .string ⟨#[]⟩] 119)) sp15 ⟨15, (f : Nat), 0, 0, 0, 0, 5⟩ := st_start w sp15 f
  obtain ⟨a0, a2, a3, a4, a5, a6, d2, d3⟩ := cells_15 h0
  go_enter Try.func87, Try.ntmps87
  go_wp2_with (first
    | (go_at_call 99; (with_reducible refine (P0.out _ _ h0).mono ?_); rintro e w1 ⟨rfl, h1⟩; clear P0; obtain ⟨a0, a2, a3, a4, a5, a6, d2, d3⟩ := cells_15 h1))
  go_quiet (fail)
  go_wp2_with (first
    | (go_at_call 99; (with_reducible refine (P1.out _ _ (h1.drewN _)).mono ?_); rintro e w2 ⟨rfl, h2⟩; clear P1; obtain ⟨a0, a2, a3, a4, a5, a6, d2, d3⟩ := cells_15 h2)
    | (go_at_call 99; (with_reducible refine (P2.out _ _ h2).mono ?_); rintro e w3 ⟨rfl, h3⟩; clear P2; obtain ⟨a0, a2, a3, a4, a5, a6, d2, d3⟩ := cells_15 h3)
    | (go_at_call 99; (with_reducible refine (P3.out _ _ h3).mono ?_); rintro e w4 ⟨rfl, h4⟩; clear P3; obtain ⟨a0, a2, a3, a4, a5, a6, d2, d3⟩ := cells_15 h4)
    | (refine wpList_load_blk rfl _ _ rfl _ rfl _ _ _ h4.ent Try.underlying119 rfl (by kernel_rfl) ?_)
    | (refine wpList_store_blk rfl _ _ _ rfl _ _ rfl rfl _ _ h4.res (by kernel_rfl) rfl (by simp [Value.oneCell']) ?_))
  exact bodyPost_ret (results_cell rfl _ _ (w.heap.size + 1) _ _ _ rfl (h4.res.row _) Try.underlying119 rfl (by kernel_rfl)) rfl ⟨rfl, below_setRow h4.bel (by omega) _⟩
theorem cells_16 {w W : World} {r : R7} (h : St w W sp16 r) : W.cell? ⟨w.heap.size, 0, none⟩ = some (.int .u8 16) ∧ W.cell? ⟨w.heap.size, 2, none⟩ = some (.int .u32 83) ∧ W.cell? ⟨w.heap.size, 3, none⟩ = some (.int .i64 (5)) ∧ W.cell? ⟨w.heap.size, 4, none⟩ = some (.int .i64 (1)) ∧ W.cell? ⟨w.heap.size, 5, none⟩ = some (.int .i64 (-1)) ∧ W.cell? ⟨w.heap.size, 6, none⟩ = some (.int .u8 5) ∧ W.cell? ⟨w.heap.size + 1 + 1, 2, none⟩ = some (.int .u8 (r.frm : Nat)) ∧ W.cell? ⟨w.heap.size + 1 + 1, 3, none⟩ = some (.int .u8 (r.kind : Nat)) :=
  ⟨h.sp.cell 0, h.sp.cell 2, h.sp.cell 3, h.sp.cell 4, h.sp.cell 5, h.sp.cell 6, h.ent.cell 2, h.ent.cell 3⟩
theorem one_16 (w : World) (f n : Nat) (hf : f < 4) (hn : n < 4) : Calls Try.prog 87 #[.agg (specV sp16), .int .u8 f, .int .i64 n] w (OneP w (ONE sp16 f n)) := by
  show Calls Try.prog 87 #[.agg #[.int .u8 16, .string ⟨#[102, 109, 97, 120]⟩, .int .u32 83, .int .i64 (5), .int .i64 (1), .int .i64 (-1), .int .u8 5], .int .u8 f, .int .i64 n] w (OneP w (ONE sp16 f n))
  have P0 : Hid (∀ W r, St w W sp16 r → Calls Try.prog 99 #[.pointer (some ⟨w.heap.size + 1 + 1, 0, none⟩), .int .i64 0, .int .i64 7, .int .u32 83] W fun e W' => e = .returned (.tuple #[]) ∧ St w W' sp16 (pt0 (83) r)) := Lib.hid fun W r h => st_put0 h (83) (by decide)
  have P1 : Hid (∀ W r, St w W sp16 r → Calls Try.prog 99 #[.pointer (some ⟨w.heap.size + 1 + 1, 0, none⟩), .int .i64 25, .int .i64 2, .int .u32 (f : Nat)] W fun e W' => e = .returned (.tuple #[]) ∧ St w W' sp16 (pt25 (f) r)) := Lib.hid fun W r h => st_put25 h (f) (by omega)
  have P2 : Hid (∀ W r, St w W sp16 r → Calls Try.prog 99 #[.pointer (some ⟨w.heap.size + 1 + 1, 0, none⟩), .int .i64 27, .int .i64 5, .int .u32 5] W fun e W' => e = .returned (.tuple #[]) ∧ St w W' sp16 (pt27 (5) r)) := Lib.hid fun W r h => st_put27 h (5) (by decide)
  have P3 : Hid (∀ W r, St w W sp16 r → Calls Try.prog 99 #[.pointer (some ⟨w.heap.size + 1 + 1, 0, none⟩), .int .i64 12, .int .i64 3, .int .u32 1] W fun e W' => e = .returned (.tuple #[]) ∧ St w W' sp16 (pt12 (1) r)) := Lib.hid fun W r h => st_put12 h (1) (by decide)
  have h0 : St w (((w.alloc (.cells #[.int .u8 16, .string ⟨#[102, 109, 97, 120]⟩, .int .u32 83, .int .i64 (5), .int .i64 (1), .int .i64 (-1), .int .u8 5] 116)).alloc (.cells #[.int .u8 0, .int .u8 0, .int .u8 0, .int .u8 0, .int .u32 0, .int .u32 0, .int .u8 0, .string ⟨#[]⟩] 119)).alloc (.cells #[.int .u8 16, .int .u8 (f : Nat), .int .u8 0, .int .u8 0, .int .u32 0, .int .u32 0, .int .u8 5, .string ⟨#[]⟩] 119)) sp16 ⟨16, (f : Nat), 0, 0, 0, 0, 5⟩ := st_start w sp16 f
  obtain ⟨a0, a2, a3, a4, a5, a6, d2, d3⟩ := cells_16 h0
  go_enter Try.func87, Try.ntmps87
  go_wp2_with (first
    | (go_at_call 99; (with_reducible refine (P0.out _ _ h0).mono ?_); rintro e w1 ⟨rfl, h1⟩; clear P0; obtain ⟨a0, a2, a3, a4, a5, a6, d2, d3⟩ := cells_16 h1))
  go_quiet (fail)
  go_wp2_with (first
    | (go_at_call 99; (with_reducible refine (P1.out _ _ (h1.drewN _)).mono ?_); rintro e w2 ⟨rfl, h2⟩; clear P1; obtain ⟨a0, a2, a3, a4, a5, a6, d2, d3⟩ := cells_16 h2)
    | (go_at_call 99; (with_reducible refine (P2.out _ _ h2).mono ?_); rintro e w3 ⟨rfl, h3⟩; clear P2; obtain ⟨a0, a2, a3, a4, a5, a6, d2, d3⟩ := cells_16 h3)
    | (go_at_call 99; (with_reducible refine (P3.out _ _ h3).mono ?_); rintro e w4 ⟨rfl, h4⟩; clear P3; obtain ⟨a0, a2, a3, a4, a5, a6, d2, d3⟩ := cells_16 h4)
    | (refine wpList_load_blk rfl _ _ rfl _ rfl _ _ _ h4.ent Try.underlying119 rfl (by kernel_rfl) ?_)
    | (refine wpList_store_blk rfl _ _ _ rfl _ _ rfl rfl _ _ h4.res (by kernel_rfl) rfl (by simp [Value.oneCell']) ?_))
  exact bodyPost_ret (results_cell rfl _ _ (w.heap.size + 1) _ _ _ rfl (h4.res.row _) Try.underlying119 rfl (by kernel_rfl)) rfl ⟨rfl, below_setRow h4.bel (by omega) _⟩
end Go.Proofs.Ytaddmgclnbkdgaa
