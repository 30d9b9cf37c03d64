/- (table.spec).one at lines of the table. -/
import Derived.Test.YtaddmgclnbkdgaaTc
namespace Go.Proofs.Ytaddmgclnbkdgaa
open Go Go.RowKit
set_option maxHeartbeats 4000000
set_option maxRecDepth 100000
set_option linter.unusedVariables false
set_option linter.unusedSimpArgs false
theorem cells_17 {w W : World} {r : R7} (h : St w W sp17 r) : W.cell? ⟨w.heap.size, 0, none⟩ = some (.int .u8 17) ∧ W.cell? ⟨w.heap.size, 2, none⟩ = some (.int .u32 83) ∧ W.cell? ⟨w.heap.size, 3, none⟩ = some (.int .i64 (8)) ∧ W.cell? ⟨w.heap.size, 4, none⟩ = some (.int .i64 (-1)) ∧ W.cell? ⟨w.heap.size, 5, none⟩ = some (.int .i64 (0)) ∧ W.cell? ⟨w.heap.size, 6, none⟩ = some (.int .u8 6) ∧ W.cell? ⟨w.heap.size + 1 + 1, 2, none⟩ = some (.int .u8 (r.frm : Nat)) ∧ W.cell? ⟨w.heap.size + 1 + 1, 3, none⟩ = some (.int .u8 (r.kind : Nat)) :=
  ⟨h.sp.cell 0, h.sp.cell 2, h.sp.cell 3, h.sp.cell 4, h.sp.cell 5, h.sp.cell 6, h.ent.cell 2, h.ent.cell 3⟩
theorem one_17 (w : World) (f n : Nat) (hf : f < 4) (hn : n < 4) : Calls Try.prog 87 #[.agg (specV sp17), .int .u8 f, .int .i64 n] w (OneP w (ONE sp17 f n)) := by
  show Calls Try.prog 87 #[.agg #[.int .u8 17, .string ⟨#[102, 99, 118, 116]⟩, .int .u32 83, .int .i64 (8), .int .i64 (-1), .int .i64 (0), .int .u8 6], .int .u8 f, .int .i64 n] w (OneP w (ONE sp17 f n))
  have P0 : Hid (∀ W r, St w W sp17 r → Calls Try.prog 99 #[.pointer (some ⟨w.heap.size + 1 + 1, 0, none⟩), .int .i64 0, .int .i64 7, .int .u32 83] W fun e W' => e = .returned (.tuple #[]) ∧ St w W' sp17 (pt0 (83) r)) := Lib.hid fun W r h => st_put0 h (83) (by decide)
  have P1 : Hid (∀ W r, St w W sp17 r → Calls Try.prog 99 #[.pointer (some ⟨w.heap.size + 1 + 1, 0, none⟩), .int .i64 25, .int .i64 2, .int .u32 (f : Nat)] W fun e W' => e = .returned (.tuple #[]) ∧ St w W' sp17 (pt25 (f) r)) := Lib.hid fun W r h => st_put25 h (f) (by omega)
  have P2 : Hid (∀ W r, St w W sp17 r → Calls Try.prog 99 #[.pointer (some ⟨w.heap.size + 1 + 1, 0, none⟩), .int .i64 27, .int .i64 5, .int .u32 8] W fun e W' => e = .returned (.tuple #[]) ∧ St w W' sp17 (pt27 (8) r)) := Lib.hid fun W r h => st_put27 h (8) (by decide)
  have P3 : Hid (∀ W r, St w W sp17 r → Calls Try.prog 99 #[.pointer (some ⟨w.heap.size + 1 + 1, 0, none⟩), .int .i64 20, .int .i64 5, .int .u32 (n : Nat)] W fun e W' => e = .returned (.tuple #[]) ∧ St w W' sp17 (pt20 (n) r)) := Lib.hid fun W r h => st_put20 h (n) (by omega)
  have h0 : St w (((w.alloc (.cells #[.int .u8 17, .string ⟨#[102, 99, 118, 116]⟩, .int .u32 83, .int .i64 (8), .int .i64 (-1), .int .i64 (0), .int .u8 6] 116)).alloc (.cells #[.int .u8 0, .int .u8 0, .int .u8 0, .int .u8 0, .int .u32 0, .int .u32 0, .int .u8 0, .string ⟨#[]⟩] 119)).alloc (.cells #[.int .u8 17, .int .u8 (f : Nat), .int .u8 0, .int .u8 0, .int .u32 0, .int .u32 0, .int .u8 6, .string ⟨#[]⟩] 119)) sp17 ⟨17, (f : Nat), 0, 0, 0, 0, 6⟩ := st_start w sp17 f
  obtain ⟨a0, a2, a3, a4, a5, a6, d2, d3⟩ := cells_17 h0
  go_enter Try.func87, Try.ntmps87
  go_wp2_with (first
    | (go_at_call 99; (with_reducible refine (P0.out _ _ h0).mono ?_); rintro e w1 ⟨rfl, h1⟩; clear P0; obtain ⟨a0, a2, a3, a4, a5, a6, d2, d3⟩ := cells_17 h1; have h1' := fun q => (h1.drewN q).setFrom n; have z2 := h1.ent.frozen 2; have b0 := fun q => (cells_17 (h1' q)).1; have b3 := fun q => (cells_17 (h1' q)).2.2.1; have b4 := fun q => (cells_17 (h1' q)).2.2.2.1; have b5 := fun q => (cells_17 (h1' q)).2.2.2.2.1))
  go_quiet (fail)
  go_wp2_with (first
    | (go_at_call 99; (with_reducible refine (P1.out _ _ (h1' _)).mono ?_); rintro e w2 ⟨rfl, h2⟩; clear P1; obtain ⟨a0, a2, a3, a4, a5, a6, d2, d3⟩ := cells_17 h2)
    | (go_at_call 99; (with_reducible refine (P2.out _ _ h2).mono ?_); rintro e w3 ⟨rfl, h3⟩; clear P2; obtain ⟨a0, a2, a3, a4, a5, a6, d2, d3⟩ := cells_17 h3)
    | (go_at_call 99; (with_reducible refine (P3.out _ _ h3).mono ?_); rintro e w4 ⟨rfl, h4⟩; clear P3; obtain ⟨a0, a2, a3, a4, a5, a6, d2, d3⟩ := cells_17 h4)
    | (refine wpList_load_blk rfl _ _ rfl _ rfl _ _ _ h4.ent Try.underlying119 rfl (by kernel_rfl) ?_)
    | (refine wpList_store_blk rfl _ _ _ rfl _ _ rfl rfl _ _ h4.res (by kernel_rfl) rfl (by simp [Value.oneCell']) ?_))
  exact bodyPost_ret (results_cell rfl _ _ (w.heap.size + 1) _ _ _ rfl (h4.res.row _) Try.underlying119 rfl (by kernel_rfl)) rfl ⟨rfl, below_setRow h4.bel (by omega) _⟩
theorem cells_18 {w W : World} {r : R7} (h : St w W sp18 r) : W.cell? ⟨w.heap.size, 0, none⟩ = some (.int .u8 18) ∧ W.cell? ⟨w.heap.size, 2, none⟩ = some (.int .u32 83) ∧ W.cell? ⟨w.heap.size, 3, none⟩ = some (.int .i64 (20)) ∧ W.cell? ⟨w.heap.size, 4, none⟩ = some (.int .i64 (2)) ∧ W.cell? ⟨w.heap.size, 5, none⟩ = some (.int .i64 (-1)) ∧ W.cell? ⟨w.heap.size, 6, none⟩ = some (.int .u8 5) ∧ W.cell? ⟨w.heap.size + 1 + 1, 2, none⟩ = some (.int .u8 (r.frm : Nat)) ∧ W.cell? ⟨w.heap.size + 1 + 1, 3, none⟩ = some (.int .u8 (r.kind : Nat)) :=
  ⟨h.sp.cell 0, h.sp.cell 2, h.sp.cell 3, h.sp.cell 4, h.sp.cell 5, h.sp.cell 6, h.ent.cell 2, h.ent.cell 3⟩
theorem one_18 (w : World) (f n : Nat) (hf : f < 4) (hn : n < 4) : Calls Try.prog 87 #[.agg (specV sp18), .int .u8 f, .int .i64 n] w (OneP w (ONE sp18 f n)) := by
  show Calls Try.prog 87 #[.agg #[.int .u8 18, .string ⟨#[102, 101, 113]⟩, .int .u32 83, .int .i64 (20), .int .i64 (2), .int .i64 (-1), .int .u8 5], .int .u8 f, .int .i64 n] w (OneP w (ONE sp18 f n))
  have P0 : Hid (∀ W r, St w W sp18 r → Calls Try.prog 99 #[.pointer (some ⟨w.heap.size + 1 + 1, 0, none⟩), .int .i64 0, .int .i64 7, .int .u32 83] W fun e W' => e = .returned (.tuple #[]) ∧ St w W' sp18 (pt0 (83) r)) := Lib.hid fun W r h => st_put0 h (83) (by decide)
  have P1 : Hid (∀ W r, St w W sp18 r → Calls Try.prog 99 #[.pointer (some ⟨w.heap.size + 1 + 1, 0, none⟩), .int .i64 25, .int .i64 2, .int .u32 (f : Nat)] W fun e W' => e = .returned (.tuple #[]) ∧ St w W' sp18 (pt25 (f) r)) := Lib.hid fun W r h => st_put25 h (f) (by omega)
  have P2 : Hid (∀ W r, St w W sp18 r → Calls Try.prog 99 #[.pointer (some ⟨w.heap.size + 1 + 1, 0, none⟩), .int .i64 27, .int .i64 5, .int .u32 20] W fun e W' => e = .returned (.tuple #[]) ∧ St w W' sp18 (pt27 (20) r)) := Lib.hid fun W r h => st_put27 h (20) (by decide)
  have P3 : Hid (∀ W r, St w W sp18 r → Calls Try.prog 99 #[.pointer (some ⟨w.heap.size + 1 + 1, 0, none⟩), .int .i64 12, .int .i64 3, .int .u32 2] W fun e W' => e = .returned (.tuple #[]) ∧ St w W' sp18 (pt12 (2) r)) := Lib.hid fun W r h => st_put12 h (2) (by decide)
  have h0 : St w (((w.alloc (.cells #[.int .u8 18, .string ⟨#[102, 101, 113]⟩, .int .u32 83, .int .i64 (20), .int .i64 (2), .int .i64 (-1), .int .u8 5] 116)).alloc (.cells #[.int .u8 0, .int .u8 0, .int .u8 0, .int .u8 0, .int .u32 0, .int .u32 0, .int .u8 0, .string ⟨#[]⟩] 119)).alloc (.cells #[.int .u8 18, .int .u8 (f : Nat), .int .u8 0, .int .u8 0, .int .u32 0, .int .u32 0, .int .u8 5, .string ⟨#[]⟩] 119)) sp18 ⟨18, (f : Nat), 0, 0, 0, 0, 5⟩ := st_start w sp18 f
  obtain ⟨a0, a2, a3, a4, a5, a6, d2, d3⟩ := cells_18 h0
  go_enter Try.func87, Try.ntmps87
  go_wp2_with (first
    | (go_at_call 99; (with_reducible refine (P0.out _ _ h0).mono ?_); rintro e w1 ⟨rfl, h1⟩; clear P0; obtain ⟨a0, a2, a3, a4, a5, a6, d2, d3⟩ := cells_18 h1))
  go_quiet (fail)
  go_wp2_with (first
    | (go_at_call 99; (with_reducible refine (P1.out _ _ (h1.drewN _)).mono ?_); rintro e w2 ⟨rfl, h2⟩; clear P1; obtain ⟨a0, a2, a3, a4, a5, a6, d2, d3⟩ := cells_18 h2)
    | (go_at_call 99; (with_reducible refine (P2.out _ _ h2).mono ?_); rintro e w3 ⟨rfl, h3⟩; clear P2; obtain ⟨a0, a2, a3, a4, a5, a6, d2, d3⟩ := cells_18 h3)
    | (go_at_call 99; (with_reducible refine (P3.out _ _ h3).mono ?_); rintro e w4 ⟨rfl, h4⟩; clear P3; obtain ⟨a0, a2, a3, a4, a5, a6, d2, d3⟩ := cells_18 h4)
    | (refine wpList_load_blk rfl _ _ rfl _ rfl _ _ _ h4.ent Try.underlying119 rfl (by kernel_rfl) ?_)
    | (refine wpList_store_blk rfl _ _ _ rfl _ _ rfl rfl _ _ h4.res (by kernel_rfl) rfl (by simp [Value.oneCell']) ?_))
  exact bodyPost_ret (results_cell rfl _ _ (w.heap.size + 1) _ _ _ rfl (h4.res.row _) Try.underlying119 rfl (by kernel_rfl)) rfl ⟨rfl, below_setRow h4.bel (by omega) _⟩
theorem cells_19 {w W : World} {r : R7} (h : St w W sp19 r) : W.cell? ⟨w.heap.size, 0, none⟩ = some (.int .u8 19) ∧ W.cell? ⟨w.heap.size, 2, none⟩ = some (.int .u32 83) ∧ W.cell? ⟨w.heap.size, 3, none⟩ = some (.int .i64 (20)) ∧ W.cell? ⟨w.heap.size, 4, none⟩ = some (.int .i64 (1)) ∧ W.cell? ⟨w.heap.size, 5, none⟩ = some (.int .i64 (-1)) ∧ W.cell? ⟨w.heap.size, 6, none⟩ = some (.int .u8 5) ∧ W.cell? ⟨w.heap.size + 1 + 1, 2, none⟩ = some (.int .u8 (r.frm : Nat)) ∧ W.cell? ⟨w.heap.size + 1 + 1, 3, none⟩ = some (.int .u8 (r.kind : Nat)) :=
  ⟨h.sp.cell 0, h.sp.cell 2, h.sp.cell 3, h.sp.cell 4, h.sp.cell 5, h.sp.cell 6, h.ent.cell 2, h.ent.cell 3⟩
theorem one_19 (w : World) (f n : Nat) (hf : f < 4) (hn : n < 4) : Calls Try.prog 87 #[.agg (specV sp19), .int .u8 f, .int .i64 n] w (OneP w (ONE sp19 f n)) := by
  show Calls Try.prog 87 #[.agg #[.int .u8 19, .string ⟨#[102, 108, 116]⟩, .int .u32 83, .int .i64 (20), .int .i64 (1), .int .i64 (-1), .int .u8 5], .int .u8 f, .int .i64 n] w (OneP w (ONE sp19 f n))
  have P0 : Hid (∀ W r, St w W sp19 r → Calls Try.prog 99 #[.pointer (some ⟨w.heap.size + 1 + 1, 0, none⟩), .int .i64 0, .int .i64 7, .int .u32 83] W fun e W' => e = .returned (.tuple #[]) ∧ St w W' sp19 (pt0 (83) r)) := Lib.hid fun W r h => st_put0 h (83) (by decide)
  have P1 : Hid (∀ W r, St w W sp19 r → Calls Try.prog 99 #[.pointer (some ⟨w.heap.size + 1 + 1, 0, none⟩), .int .i64 25, .int .i64 2, .int .u32 (f : Nat)] W fun e W' => e = .returned (.tuple #[]) ∧ St w W' sp19 (pt25 (f) r)) := Lib.hid fun W r h => st_put25 h (f) (by omega)
  have P2 : Hid (∀ W r, St w W sp19 r → Calls Try.prog 99 #[.pointer (some ⟨w.heap.size + 1 + 1, 0, none⟩), .int .i64 27, .int .i64 5, .int .u32 20] W fun e W' => e = .returned (.tuple #[]) ∧ St w W' sp19 (pt27 (20) r)) := Lib.hid fun W r h => st_put27 h (20) (by decide)
  have P3 : Hid (∀ W r, St w W sp19 r → Calls Try.prog 99 #[.pointer (some ⟨w.heap.size + 1 + 1, 0, none⟩), .int .i64 12, .int .i64 3, .int .u32 1] W fun e W' => e = .returned (.tuple #[]) ∧ St w W' sp19 (pt12 (1) r)) := Lib.hid fun W r h => st_put12 h (1) (by decide)
  have h0 : St w (((w.alloc (.cells #[.int .u8 19, .string ⟨#[102, 108, 116]⟩, .int .u32 83, .int .i64 (20), .int .i64 (1), .int .i64 (-1), .int .u8 5] 116)).alloc (.cells #[.int .u8 0, .int .u8 0, .int .u8 0, .int .u8 0, .int .u32 0, .int .u32 0, .int .u8 0, .string ⟨#[]⟩] 119)).alloc (.cells #[.int .u8 19, .int .u8 (f : Nat), .int .u8 0, .int .u8 0, .int .u32 0, .int .u32 0, .int .u8 5, .string ⟨#[]⟩] 119)) sp19 ⟨19, (f : Nat), 0, 0, 0, 0, 5⟩ := st_start w sp19 f
  obtain ⟨a0, a2, a3, a4, a5, a6, d2, d3⟩ := cells_19 h0
  go_enter Try.func87, Try.ntmps87
  go_wp2_with (first
    | (go_at_call 99; (with_reducible refine (P0.out _ _ h0).mono ?_); rintro e w1 ⟨rfl, h1⟩; clear P0; obtain ⟨a0, a2, a3, a4, a5, a6, d2, d3⟩ := cells_19 h1))
  go_quiet (fail)
  go_wp2_with (first
    | (go_at_call 99; (with_reducible refine (P1.out _ _ (h1.drewN _)).mono ?_); rintro e w2 ⟨rfl, h2⟩; clear P1; obtain ⟨a0, a2, a3, a4, a5, a6, d2, d3⟩ := cells_19 h2)
    | (go_at_call 99; (with_reducible refine (P2.out _ _ h2).mono ?_); rintro e w3 ⟨rfl, h3⟩; clear P2; obtain ⟨a0, a2, a3, a4, a5, a6, d2, d3⟩ := cells_19 h3)
    | (go_at_call 99; (with_reducible refine (P3.out _ _ h3).mono ?_); rintro e w4 ⟨rfl, h4⟩; clear P3; obtain ⟨a0, a2, a3, a4, a5, a6, d2, d3⟩ := cells_19 h4)
    | (refine wpList_load_blk rfl _ _ rfl _ rfl _ _ _ h4.ent Try.underlying119 rfl (by kernel_rfl) ?_)
    | (refine wpList_store_blk rfl _ _ _ rfl _ _ rfl rfl _ _ h4.res (by kernel_rfl) rfl (by simp [Value.oneCell']) ?_))
  exact bodyPost_ret (results_cell rfl _ _ (w.heap.size + 1) _ _ _ rfl (h4.res.row _) Try.underlying119 rfl (by kernel_rfl)) rfl ⟨rfl, below_setRow h4.bel (by omega) _⟩
theorem cells_20 {w W : World} {r : R7} (h : St w W sp20 r) : W.cell? ⟨w.heap.size, 0, none⟩ = some (.int .u8 20) ∧ W.cell? ⟨w.heap.size, 2, none⟩ = some (.int .u32 83) ∧ W.cell? ⟨w.heap.size, 3, none⟩ = some (.int .i64 (20)) ∧ W.cell? ⟨w.heap.size, 4, none⟩ = some (.int .i64 (0)) ∧ W.cell? ⟨w.heap.size, 5, none⟩ = some (.int .i64 (-1)) ∧ W.cell? ⟨w.heap.size, 6, none⟩ = some (.int .u8 5) ∧ W.cell? ⟨w.heap.size + 1 + 1, 2, none⟩ = some (.int .u8 (r.frm : Nat)) ∧ W.cell? ⟨w.heap.size + 1 + 1, 3, none⟩ = some (.int .u8 (r.kind : Nat)) :=
  ⟨h.sp.cell 0, h.sp.cell 2, h.sp.cell 3, h.sp.cell 4, h.sp.cell 5, h.sp.cell 6, h.ent.cell 2, h.ent.cell 3⟩
theorem one_20 (w : World) (f n : Nat) (hf : f < 4) (hn : n < 4) : Calls Try.prog 87 #[.agg (specV sp20), .int .u8 f, .int .i64 n] w (OneP w (ONE sp20 f n)) := by
  show Calls Try.prog 87 #[.agg #[.int .u8 20, .string ⟨#[102, 108, 101]⟩, .int .u32 83, .int .i64 (20), .int .i64 (0), .int .i64 (-1), .int .u8 5], .int .u8 f, .int .i64 n] w (OneP w (ONE sp20 f n))
  have P0 : Hid (∀ W r, St w W sp20 r → Calls Try.prog 99 #[.pointer (some ⟨w.heap.size + 1 + 1, 0, none⟩), .int .i64 0, .int .i64 7, .int .u32 83] W fun e W' => e = .returned (.tuple #[]) ∧ St w W' sp20 (pt0 (83) r)) := Lib.hid fun W r h => st_put0 h (83) (by decide)
  have P1 : Hid (∀ W r, St w W sp20 r → Calls Try.prog 99 #[.pointer (some ⟨w.heap.size + 1 + 1, 0, none⟩), .int .i64 25, .int .i64 2, .int .u32 (f : Nat)] W fun e W' => e = .returned (.tuple #[]) ∧ St w W' sp20 (pt25 (f) r)) := Lib.hid fun W r h => st_put25 h (f) (by omega)
  have P2 : Hid (∀ W r, St w W sp20 r → Calls Try.prog 99 #[.pointer (some ⟨w.heap.size + 1 + 1, 0, none⟩), .int .i64 27, .int .i64 5, .int .u32 20] W fun e W' => e = .returned (.tuple #[]) ∧ St w W' sp20 (pt27 (20) r)) := Lib.hid fun W r h => st_put27 h (20) (by decide)
  have P3 : Hid (∀ W r, St w W sp20 r → Calls Try.prog 99 #[.pointer (some ⟨w.heap.size + 1 + 1, 0, none⟩), .int .i64 12, .int .i64 3, .int .u32 0] W fun e W' => e = .returned (.tuple #[]) ∧ St w W' sp20 (pt12 (0) r)) := Lib.hid fun W r h => st_put12 h (0) (by decide)
  have h0 : St w (((w.alloc (.cells #[.int .u8 20, .string ⟨#[102, 108, 101]⟩, .int .u32 83, .int .i64 (20), .int .i64 (0), .int .i64 (-1), .int .u8 5] 116)).alloc (.cells #[.int .u8 0, .int .u8 0, .int .u8 0, .int .u8 0, .int .u32 0, .int .u32 0, .int .u8 0, .string ⟨#[]⟩] 119)).alloc (.cells #[.int .u8 20, .int .u8 (f : Nat), .int .u8 0, .int .u8 0, .int .u32 0, .int .u32 0, .int .u8 5, .string ⟨#[]⟩] 119)) sp20 ⟨20, (f : Nat), 0, 0, 0, 0, 5⟩ := st_start w sp20 f
  obtain ⟨a0, a2, a3, a4, a5, a6, d2, d3⟩ := cells_20 h0
  go_enter Try.func87, Try.ntmps87
  go_wp2_with (first
    | (go_at_call 99; (with_reducible refine (P0.out _ _ h0).mono ?_); rintro e w1 ⟨rfl, h1⟩; clear P0; obtain ⟨a0, a2, a3, a4, a5, a6, d2, d3⟩ := cells_20 h1))
  go_quiet (fail)
  go_wp2_with (first
    | (go_at_call 99; (with_reducible refine (P1.out _ _ (h1.drewN _)).mono ?_); rintro e w2 ⟨rfl, h2⟩; clear P1; obtain ⟨a0, a2, a3, a4, a5, a6, d2, d3⟩ := cells_20 h2)
    | (go_at_call 99; (with_reducible refine (P2.out _ _ h2).mono ?_); rintro e w3 ⟨rfl, h3⟩; clear P2; obtain ⟨a0, a2, a3, a4, a5, a6, d2, d3⟩ := cells_20 h3)
    | (go_at_call 99; (with_reducible refine (P3.out _ _ h3).mono ?_); rintro e w4 ⟨rfl, h4⟩; clear P3; obtain ⟨a0, a2, a3, a4, a5, a6, d2, d3⟩ := cells_20 h4)
    | (refine wpList_load_blk rfl _ _ rfl _ rfl _ _ _ h4.ent Try.underlying119 rfl (by kernel_rfl) ?_)
    | (refine wpList_store_blk rfl _ _ _ rfl _ _ rfl rfl _ _ h4.res (by kernel_rfl) rfl (by simp [Value.oneCell']) ?_))
  exact bodyPost_ret (results_cell rfl _ _ (w.heap.size + 1) _ _ _ rfl (h4.res.row _) Try.underlying119 rfl (by kernel_rfl)) rfl ⟨rfl, below_setRow h4.bel (by omega) _⟩
theorem cells_21 {w W : World} {r : R7} (h : St w W sp21 r) : W.cell? ⟨w.heap.size, 0, none⟩ = some (.int .u8 21) ∧ W.cell? ⟨w.heap.size, 2, none⟩ = some (.int .u32 83) ∧ W.cell? ⟨w.heap.size, 3, none⟩ = some (.int .i64 (24)) ∧ W.cell? ⟨w.heap.size, 4, none⟩ = some (.int .i64 (-1)) ∧ W.cell? ⟨w.heap.size, 5, none⟩ = some (.int .i64 (0)) ∧ W.cell? ⟨w.heap.size, 6, none⟩ = some (.int .u8 6) ∧ W.cell? ⟨w.heap.size + 1 + 1, 2, none⟩ = some (.int .u8 (r.frm : Nat)) ∧ W.cell? ⟨w.heap.size + 1 + 1, 3, none⟩ = some (.int .u8 (r.kind : Nat)) :=
  ⟨h.sp.cell 0, h.sp.cell 2, h.sp.cell 3, h.sp.cell 4, h.sp.cell 5, h.sp.cell 6, h.ent.cell 2, h.ent.cell 3⟩
theorem one_21 (w : World) (f n : Nat) (hf : f < 4) (hn : n < 4) : Calls Try.prog 87 #[.agg (specV sp21), .int .u8 f, .int .i64 n] w (OneP w (ONE sp21 f n)) := by
  show Calls Try.prog 87 #[.agg #[.int .u8 21, .string ⟨#[102, 99, 118, 116]⟩, .int .u32 83, .int .i64 (24), .int .i64 (-1), .int .i64 (0), .int .u8 6], .int .u8 f, .int .i64 n] w (OneP w (ONE sp21 f n))
  have P0 : Hid (∀ W r, St w W sp21 r → Calls Try.prog 99 #[.pointer (some ⟨w.heap.size + 1 + 1, 0, none⟩), .int .i64 0, .int .i64 7, .int .u32 83] W fun e W' => e = .returned (.tuple #[]) ∧ St w W' sp21 (pt0 (83) r)) := Lib.hid fun W r h => st_put0 h (83) (by decide)
  have P1 : Hid (∀ W r, St w W sp21 r → Calls Try.prog 99 #[.pointer (some ⟨w.heap.size + 1 + 1, 0, none⟩), .int .i64 25, .int .i64 2, .int .u32 (f : Nat)] W fun e W' => e = .returned (.tuple #[]) ∧ St w W' sp21 (pt25 (f) r)) := Lib.hid fun W r h => st_put25 h (f) (by omega)
  have P2 : Hid (∀ W r, St w W sp21 r → Calls Try.prog 99 #[.pointer (some ⟨w.heap.size + 1 + 1, 0, none⟩), .int .i64 27, .int .i64 5, .int .u32 24] W fun e W' => e = .returned (.tuple #[]) ∧ St w W' sp21 (pt27 (24) r)) := Lib.hid fun W r h => st_put27 h (24) (by decide)
  have P3 : Hid (∀ W r, St w W sp21 r → Calls Try.prog 99 #[.pointer (some ⟨w.heap.size + 1 + 1, 0, none⟩), .int .i64 20, .int .i64 5, .int .u32 (n : Nat)] W fun e W' => e = .returned (.tuple #[]) ∧ St w W' sp21 (pt20 (n) r)) := Lib.hid fun W r h => st_put20 h (n) (by omega)
  have h0 : St w (((w.alloc (.cells #[.int .u8 21, .string ⟨#[102, 99, 118, 116]⟩, .int .u32 83, .int .i64 (24), .int .i64 (-1), .int .i64 (0), .int .u8 6] 116)).alloc (.cells #[.int .u8 0, .int .u8 0, .int .u8 0, .int .u8 0, .int .u32 0, .int .u32 0, .int .u8 0, .string ⟨#[]⟩] 119)).alloc (.cells #[.int .u8 21, .int .u8 (f : Nat), .int .u8 0, .int .u8 0, .int .u32 0, .int .u32 0, .int .u8 6, .string ⟨#[]⟩] 119)) sp21 ⟨21, (f : Nat), 0, 0, 0, 0, 6⟩ := st_start w sp21 f
  obtain ⟨a0, a2, a3, a4, a5, a6, d2, d3⟩ := cells_21 h0
  go_enter Try.func87, Try.ntmps87
  go_wp2_with (first
    | (go_at_call 99; (with_reducible refine (P0.out _ _ h0).mono ?_); rintro e w1 ⟨rfl, h1⟩; clear P0; obtain ⟨a0, a2, a3, a4, a5, a6, d2, d3⟩ := cells_21 h1; have h1' := fun q => (h1.drewN q).setKind n; have z3 := h1.ent.frozen 3; have b0 := fun q => (cells_21 (h1' q)).1; have b3 := fun q => (cells_21 (h1' q)).2.2.1; have b4 := fun q => (cells_21 (h1' q)).2.2.2.1; have b5 := fun q => (cells_21 (h1' q)).2.2.2.2.1))
  go_quiet (fail)
  go_wp2_with (first
    | (go_at_call 99; (with_reducible refine (P1.out _ _ (h1' _)).mono ?_); rintro e w2 ⟨rfl, h2⟩; clear P1; obtain ⟨a0, a2, a3, a4, a5, a6, d2, d3⟩ := cells_21 h2)
    | (go_at_call 99; (with_reducible refine (P2.out _ _ h2).mono ?_); rintro e w3 ⟨rfl, h3⟩; clear P2; obtain ⟨a0, a2, a3, a4, a5, a6, d2, d3⟩ := cells_21 h3)
    | (go_at_call 99; (with_reducible refine (P3.out _ _ h3).mono ?_); rintro e w4 ⟨rfl, h4⟩; clear P3; obtain ⟨a0, a2, a3, a4, a5, a6, d2, d3⟩ := cells_21 h4)
    | (refine wpList_load_blk rfl _ _ rfl _ rfl _ _ _ h4.ent Try.underlying119 rfl (by kernel_rfl) ?_)
    | (refine wpList_store_blk rfl _ _ _ rfl _ _ rfl rfl _ _ h4.res (by kernel_rfl) rfl (by simp [Value.oneCell']) ?_))
  exact bodyPost_ret (results_cell rfl _ _ (w.heap.size + 1) _ _ _ rfl (h4.res.row _) Try.underlying119 rfl (by kernel_rfl)) rfl ⟨rfl, below_setRow h4.bel (by omega) _⟩
theorem cells_22 {w W : World} {r : R7} (h : St w W sp22 r) : W.cell? ⟨w.heap.size, 0, none⟩ = some (.int .u8 22) ∧ W.cell? ⟨w.heap.size, 2, none⟩ = some (.int .u32 83) ∧ W.cell? ⟨w.heap.size, 3, none⟩ = some (.int .i64 (26)) ∧ W.cell? ⟨w.heap.size, 4, none⟩ = some (.int .i64 (-1)) ∧ W.cell? ⟨w.heap.size, 5, none⟩ = some (.int .i64 (0)) ∧ W.cell? ⟨w.heap.size, 6, none⟩ = some (.int .u8 6) ∧ W.cell? ⟨w.heap.size + 1 + 1, 2, none⟩ = some (.int .u8 (r.frm : Nat)) ∧ W.cell? ⟨w.heap.size + 1 + 1, 3, none⟩ = some (.int .u8 (r.kind : Nat)) :=
  ⟨h.sp.cell 0, h.sp.cell 2, h.sp.cell 3, h.sp.cell 4, h.sp.cell 5, h.sp.cell 6, h.ent.cell 2, h.ent.cell 3⟩
theorem one_22 (w : World) (f n : Nat) (hf : f < 4) (hn : n < 4) : Calls Try.prog 87 #[.agg (specV sp22), .int .u8 f, .int .i64 n] w (OneP w (ONE sp22 f n)) := by
  show Calls Try.prog 87 #[.agg #[.int .u8 22, .string ⟨#[102, 99, 118, 116]⟩, .int .u32 83, .int .i64 (26), .int .i64 (-1), .int .i64 (0), .int .u8 6], .int .u8 f, .int .i64 n] w (OneP w (ONE sp22 f n))
  have P0 : Hid (∀ W r, St w W sp22 r → Calls Try.prog 99 #[.pointer (some ⟨w.heap.size + 1 + 1, 0, none⟩), .int .i64 0, .int .i64 7, .int .u32 83] W fun e W' => e = .returned (.tuple #[]) ∧ St w W' sp22 (pt0 (83) r)) := Lib.hid fun W r h => st_put0 h (83) (by decide)
  have P1 : Hid (∀ W r, St w W sp22 r → Calls Try.prog 99 #[.pointer (some ⟨w.heap.size + 1 + 1, 0, none⟩), .int .i64 25, .int .i64 2, .int .u32 (f : Nat)] W fun e W' => e = .returned (.tuple #[]) ∧ St w W' sp22 (pt25 (f) r)) := Lib.hid fun W r h => st_put25 h (f) (by omega)
  have P2 : Hid (∀ W r, St w W sp22 r → Calls Try.prog 99 #[.pointer (some ⟨w.heap.size + 1 + 1, 0, none⟩), .int .i64 27, .int .i64 5, .int .u32 26] W fun e W' => e = .returned (.tuple #[]) ∧ St w W' sp22 (pt27 (26) r)) := Lib.hid fun W r h => st_put27 h (26) (by decide)
  have P3 : Hid (∀ W r, St w W sp22 r → Calls Try.prog 99 #[.pointer (some ⟨w.heap.size + 1 + 1, 0, none⟩), .int .i64 20, .int .i64 5, .int .u32 (n : Nat)] W fun e W' => e = .returned (.tuple #[]) ∧ St w W' sp22 (pt20 (n) r)) := Lib.hid fun W r h => st_put20 h (n) (by omega)
  have h0 : St w (((w.alloc (.cells #[.int .u8 22, .string ⟨#[102, 99, 118, 116]⟩, .int .u32 83, .int .i64 (26), .int .i64 (-1), .int .i64 (0), .int .u8 6] 116)).alloc (.cells #[.int .u8 0, .int .u8 0, .int .u8 0, .int .u8 0, .int .u32 0, .int .u32 0, .int .u8 0, .string ⟨#[]⟩] 119)).alloc (.cells #[.int .u8 22, .int .u8 (f : Nat), .int .u8 0, .int .u8 0, .int .u32 0, .int .u32 0, .int .u8 6, .string ⟨#[]⟩] 119)) sp22 ⟨22, (f : Nat), 0, 0, 0, 0, 6⟩ := st_start w sp22 f
  obtain ⟨a0, a2, a3, a4, a5, a6, d2, d3⟩ := cells_22 h0
  go_enter Try.func87, Try.ntmps87
  go_wp2_with (first
    | (go_at_call 99; (with_reducible refine (P0.out _ _ h0).mono ?_); rintro e w1 ⟨rfl, h1⟩; clear P0; obtain ⟨a0, a2, a3, a4, a5, a6, d2, d3⟩ := cells_22 h1; have h1' := fun q => (h1.drewN q).setKind n; have z3 := h1.ent.frozen 3; have b0 := fun q => (cells_22 (h1' q)).1; have b3 := fun q => (cells_22 (h1' q)).2.2.1; have b4 := fun q => (cells_22 (h1' q)).2.2.2.1; have b5 := fun q => (cells_22 (h1' q)).2.2.2.2.1))
  go_quiet (fail)
  go_wp2_with (first
    | (go_at_call 99; (with_reducible refine (P1.out _ _ (h1' _)).mono ?_); rintro e w2 ⟨rfl, h2⟩; clear P1; obtain ⟨a0, a2, a3, a4, a5, a6, d2, d3⟩ := cells_22 h2)
    | (go_at_call 99; (with_reducible refine (P2.out _ _ h2).mono ?_); rintro e w3 ⟨rfl, h3⟩; clear P2; obtain ⟨a0, a2, a3, a4, a5, a6, d2, d3⟩ := cells_22 h3)
    | (go_at_call 99; (with_reducible refine (P3.out _ _ h3).mono ?_); rintro e w4 ⟨rfl, h4⟩; clear P3; obtain ⟨a0, a2, a3, a4, a5, a6, d2, d3⟩ := cells_22 h4)
    | (refine wpList_load_blk rfl _ _ rfl _ rfl _ _ _ h4.ent Try.underlying119 rfl (by kernel_rfl) ?_)
    | (refine wpList_store_blk rfl _ _ _ rfl _ _ rfl rfl _ _ h4.res (by kernel_rfl) rfl (by simp [Value.oneCell']) ?_))
  exact bodyPost_ret (results_cell rfl _ _ (w.heap.size + 1) _ _ _ rfl (h4.res.row _) Try.underlying119 rfl (by kernel_rfl)) rfl ⟨rfl, below_setRow h4.bel (by omega) _⟩
theorem cells_23 {w W : World} {r : R7} (h : St w W sp23 r) : W.cell? ⟨w.heap.size, 0, none⟩ = some (.int .u8 23) ∧ W.cell? ⟨w.heap.size, 2, none⟩ = some (.int .u32 83) ∧ W.cell? ⟨w.heap.size, 3, none⟩ = some (.int .i64 (28)) ∧ W.cell? ⟨w.heap.size, 4, none⟩ = some (.int .i64 (0)) ∧ W.cell? ⟨w.heap.size, 5, none⟩ = some (.int .i64 (0)) ∧ W.cell? ⟨w.heap.size, 6, none⟩ = some (.int .u8 7) ∧ W.cell? ⟨w.heap.size + 1 + 1, 2, none⟩ = some (.int .u8 (r.frm : Nat)) ∧ W.cell? ⟨w.heap.size + 1 + 1, 3, none⟩ = some (.int .u8 (r.kind : Nat)) :=
  ⟨h.sp.cell 0, h.sp.cell 2, h.sp.cell 3, h.sp.cell 4, h.sp.cell 5, h.sp.cell 6, h.ent.cell 2, h.ent.cell 3⟩
theorem one_23 (w : World) (f n : Nat) (hf : f < 4) (hn : n < 4) : Calls Try.prog 87 #[.agg (specV sp23), .int .u8 f, .int .i64 n] w (OneP w (ONE sp23 f n)) := by
  show Calls Try.prog 87 #[.agg #[.int .u8 23, .string ⟨#[102, 109, 118, 46, 120]⟩, .int .u32 83, .int .i64 (28), .int .i64 (0), .int .i64 (0), .int .u8 7], .int .u8 f, .int .i64 n] w (OneP w (ONE sp23 f n))
  have P0 : Hid (∀ W r, St w W sp23 r → Calls Try.prog 99 #[.pointer (some ⟨w.heap.size + 1 + 1, 0, none⟩), .int .i64 0, .int .i64 7, .int .u32 83] W fun e W' => e = .returned (.tuple #[]) ∧ St w W' sp23 (pt0 (83) r)) := Lib.hid fun W r h => st_put0 h (83) (by decide)
  have P1 : Hid (∀ W r, St w W sp23 r → Calls Try.prog 99 #[.pointer (some ⟨w.heap.size + 1 + 1, 0, none⟩), .int .i64 25, .int .i64 2, .int .u32 (f : Nat)] W fun e W' => e = .returned (.tuple #[]) ∧ St w W' sp23 (pt25 (f) r)) := Lib.hid fun W r h => st_put25 h (f) (by omega)
  have P2 : Hid (∀ W r, St w W sp23 r → Calls Try.prog 99 #[.pointer (some ⟨w.heap.size + 1 + 1, 0, none⟩), .int .i64 27, .int .i64 5, .int .u32 28] W fun e W' => e = .returned (.tuple #[]) ∧ St w W' sp23 (pt27 (28) r)) := Lib.hid fun W r h => st_put27 h (28) (by decide)
  have P3 : Hid (∀ W r, St w W sp23 r → Calls Try.prog 99 #[.pointer (some ⟨w.heap.size + 1 + 1, 0, none⟩), .int .i64 12, .int .i64 3, .int .u32 0] W fun e W' => e = .returned (.tuple #[]) ∧ St w W' sp23 (pt12 (0) r)) := Lib.hid fun W r h => st_put12 h (0) (by decide)
  have P4 : Hid (∀ W r, St w W sp23 r → Calls Try.prog 99 #[.pointer (some ⟨w.heap.size + 1 + 1, 0, none⟩), .int .i64 20, .int .i64 5, .int .u32 0] W fun e W' => e = .returned (.tuple #[]) ∧ St w W' sp23 (pt20 (0) r)) := Lib.hid fun W r h => st_put20 h (0) (by decide)
  have h0 : St w (((w.alloc (.cells #[.int .u8 23, .string ⟨#[102, 109, 118, 46, 120]⟩, .int .u32 83, .int .i64 (28), .int .i64 (0), .int .i64 (0), .int .u8 7] 116)).alloc (.cells #[.int .u8 0, .int .u8 0, .int .u8 0, .int .u8 0, .int .u32 0, .int .u32 0, .int .u8 0, .string ⟨#[]⟩] 119)).alloc (.cells #[.int .u8 23, .int .u8 (f : Nat), .int .u8 0, .int .u8 0, .int .u32 0, .int .u32 0, .int .u8 7, .string ⟨#[]⟩] 119)) sp23 ⟨23, (f : Nat), 0, 0, 0, 0, 7⟩ := st_start w sp23 f
  obtain ⟨a0, a2, a3, a4, a5, a6, d2, d3⟩ := cells_23 h0
  go_enter Try.func87, Try.ntmps87
  go_wp2_with (first
    | (go_at_call 99; (with_reducible refine (P0.out _ _ h0).mono ?_); rintro e w1 ⟨rfl, h1⟩; clear P0; obtain ⟨a0, a2, a3, a4, a5, a6, d2, d3⟩ := cells_23 h1))
  go_quiet (fail)
  go_wp2_with (first
    | (go_at_call 99; (with_reducible refine (P1.out _ _ (h1.drewN _)).mono ?_); rintro e w2 ⟨rfl, h2⟩; clear P1; obtain ⟨a0, a2, a3, a4, a5, a6, d2, d3⟩ := cells_23 h2)
    | (go_at_call 99; (with_reducible refine (P2.out _ _ h2).mono ?_); rintro e w3 ⟨rfl, h3⟩; clear P2; obtain ⟨a0, a2, a3, a4, a5, a6, d2, d3⟩ := cells_23 h3)
    | (go_at_call 99; (with_reducible refine (P3.out _ _ h3).mono ?_); rintro e w4 ⟨rfl, h4⟩; clear P3; obtain ⟨a0, a2, a3, a4, a5, a6, d2, d3⟩ := cells_23 h4)
    | (go_at_call 99; (with_reducible refine (P4.out _ _ h4).mono ?_); rintro e w5 ⟨rfl, h5⟩; clear P4; obtain ⟨a0, a2, a3, a4, a5, a6, d2, d3⟩ := cells_23 h5)
    | (refine wpList_load_blk rfl _ _ rfl _ rfl _ _ _ h5.ent Try.underlying119 rfl (by kernel_rfl) ?_)
    | (refine wpList_store_blk rfl _ _ _ rfl _ _ rfl rfl _ _ h5.res (by kernel_rfl) rfl (by simp [Value.oneCell']) ?_))
  exact bodyPost_ret (results_cell rfl _ _ (w.heap.size + 1) _ _ _ rfl (h5.res.row _) Try.underlying119 rfl (by kernel_rfl)) rfl ⟨rfl, below_setRow h5.bel (by omega) _⟩
theorem cells_24 {w W : World} {r : R7} (h : St w W sp24 r) : W.cell? ⟨w.heap.size, 0, none⟩ = some (.int .u8 24) ∧ W.cell? ⟨w.heap.size, 2, none⟩ = some (.int .u32 83) ∧ W.cell? ⟨w.heap.size, 3, none⟩ = some (.int .i64 (28)) ∧ W.cell? ⟨w.heap.size, 4, none⟩ = some (.int .i64 (1)) ∧ W.cell? ⟨w.heap.size, 5, none⟩ = some (.int .i64 (0)) ∧ W.cell? ⟨w.heap.size, 6, none⟩ = some (.int .u8 7) ∧ W.cell? ⟨w.heap.size + 1 + 1, 2, none⟩ = some (.int .u8 (r.frm : Nat)) ∧ W.cell? ⟨w.heap.size + 1 + 1, 3, none⟩ = some (.int .u8 (r.kind : Nat)) :=
  ⟨h.sp.cell 0, h.sp.cell 2, h.sp.cell 3, h.sp.cell 4, h.sp.cell 5, h.sp.cell 6, h.ent.cell 2, h.ent.cell 3⟩
theorem one_24 (w : World) (f n : Nat) (hf : f < 4) (hn : n < 4) : Calls Try.prog 87 #[.agg (specV sp24), .int .u8 f, .int .i64 n] w (OneP w (ONE sp24 f n)) := by
  show Calls Try.prog 87 #[.agg #[.int .u8 24, .string ⟨#[102, 99, 108, 97, 115, 115]⟩, .int .u32 83, .int .i64 (28), .int .i64 (1), .int .i64 (0), .int .u8 7], .int .u8 f, .int .i64 n] w (OneP w (ONE sp24 f n))
  have P0 : Hid (∀ W r, St w W sp24 r → Calls Try.prog 99 #[.pointer (some ⟨w.heap.size + 1 + 1, 0, none⟩), .int .i64 0, .int .i64 7, .int .u32 83] W fun e W' => e = .returned (.tuple #[]) ∧ St w W' sp24 (pt0 (83) r)) := Lib.hid fun W r h => st_put0 h (83) (by decide)
  have P1 : Hid (∀ W r, St w W sp24 r → Calls Try.prog 99 #[.pointer (some ⟨w.heap.size + 1 + 1, 0, none⟩), .int .i64 25, .int .i64 2, .int .u32 (f : Nat)] W fun e W' => e = .returned (.tuple #[]) ∧ St w W' sp24 (pt25 (f) r)) := Lib.hid fun W r h => st_put25 h (f) (by omega)
  have P2 : Hid (∀ W r, St w W sp24 r → Calls Try.prog 99 #[.pointer (some ⟨w.heap.size + 1 + 1, 0, none⟩), .int .i64 27, .int .i64 5, .int .u32 28] W fun e W' => e = .returned (.tuple #[]) ∧ St w W' sp24 (pt27 (28) r)) := Lib.hid fun W r h => st_put27 h (28) (by decide)
  have P3 : Hid (∀ W r, St w W sp24 r → Calls Try.prog 99 #[.pointer (some ⟨w.heap.size + 1 + 1, 0, none⟩), .int .i64 12, .int .i64 3, .int .u32 1] W fun e W' => e = .returned (.tuple #[]) ∧ St w W' sp24 (pt12 (1) r)) := Lib.hid fun W r h => st_put12 h (1) (by decide)
  have P4 : Hid (∀ W r, St w W sp24 r → Calls Try.prog 99 #[.pointer (some ⟨w.heap.size + 1 + 1, 0, none⟩), .int .i64 20, .int .i64 5, .int .u32 0] W fun e W' => e = .returned (.tuple #[]) ∧ St w W' sp24 (pt20 (0) r)) := Lib.hid fun W r h => st_put20 h (0) (by decide)
  have h0 : St w (((w.alloc (.cells #[.int .u8 24, .string ⟨#[102, 99, 108, 97, 115, 115]⟩, .int .u32 83, .int .i64 (28), .int .i64 (1), .int .i64 (0), .int .u8 7] 116)).alloc (.cells #[.int .u8 0, .int .u8 0, .int .u8 0, .int .u8 0, .int .u32 0, .int .u32 0, .int .u8 0, .string ⟨#[]⟩] 119)).alloc (.cells #[.int .u8 24, .int .u8 (f : Nat), .int .u8 0, .int .u8 0, .int .u32 0, .int .u32 0, .int .u8 7, .string ⟨#[]⟩] 119)) sp24 ⟨24, (f : Nat), 0, 0, 0, 0, 7⟩ := st_start w sp24 f
  obtain ⟨a0, a2, a3, a4, a5, a6, d2, d3⟩ := cells_24 h0
  go_enter Try.func87, Try.ntmps87
  go_wp2_with (first
    | (go_at_call 99; (with_reducible refine (P0.out _ _ h0).mono ?_); rintro e w1 ⟨rfl, h1⟩; clear P0; obtain ⟨a0, a2, a3, a4, a5, a6, d2, d3⟩ := cells_24 h1))
  go_quiet (fail)
  go_wp2_with (first
    | (go_at_call 99; (with_reducible refine (P1.out _ _ (h1.drewN _)).mono ?_); rintro e w2 ⟨rfl, h2⟩; clear P1; obtain ⟨a0, a2, a3, a4, a5, a6, d2, d3⟩ := cells_24 h2)
    | (go_at_call 99; (with_reducible refine (P2.out _ _ h2).mono ?_); rintro e w3 ⟨rfl, h3⟩; clear P2; obtain ⟨a0, a2, a3, a4, a5, a6, d2, d3⟩ := cells_24 h3)
    | (go_at_call 99; (with_reducible refine (P3.out _ _ h3).mono ?_); rintro e w4 ⟨rfl, h4⟩; clear P3; obtain ⟨a0, a2, a3, a4, a5, a6, d2, d3⟩ := cells_24 h4)
    | (go_at_call 99; (with_reducible refine (P4.out _ _ h4).mono ?_); rintro e w5 ⟨rfl, h5⟩; clear P4; obtain ⟨a0, a2, a3, a4, a5, a6, d2, d3⟩ := cells_24 h5)
    | (refine wpList_load_blk rfl _ _ rfl _ rfl _ _ _ h5.ent Try.underlying119 rfl (by kernel_rfl) ?_)
    | (refine wpList_store_blk rfl _ _ _ rfl _ _ rfl rfl _ _ h5.res (by kernel_rfl) rfl (by simp [Value.oneCell']) ?_))
  exact bodyPost_ret (results_cell rfl _ _ (w.heap.size + 1) _ _ _ rfl (h5.res.row _) Try.underlying119 rfl (by kernel_rfl)) rfl ⟨rfl, below_setRow h5.bel (by omega) _⟩
end Go.Proofs.Ytaddmgclnbkdgaa
