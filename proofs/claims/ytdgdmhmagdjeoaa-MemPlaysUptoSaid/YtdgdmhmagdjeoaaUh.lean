/- abacuslaw28.lives. -/
import Derived.Test.YtdgdmhmagdjeoaaUg
namespace Go.Proofs.Ytdgdmhmagdjeoaa
open Go.RowKit
set_option maxHeartbeats 4000000
set_option maxRecDepth 100000
set_option linter.unusedVariables false
set_option linter.unusedSimpArgs false
set_option exponentiation.threshold 1000
def lv0 : List Nat := List.replicate 20 0
def lv1 : List Nat := put lv0 3 (leB 4 287454020)
theorem lv1_load : leN (part lv1 3 2) / 18446744073709551616 = 0 ∧ leN (part lv1 3 2) % 18446744073709551616 = 13124 := by decide +kernel
theorem lv1_bytes : part lv1 2 3 = [0, 68, 51] := by decide +kernel
theorem fnv0 : fnv [0] = 12638153115695167455 := by decide +kernel
theorem widB4 : widB 4 = true := by decide
section
variable (B : Nat) (W : World) (m g c : Nat)
abbrev Mem20 (W : World) (B m g c : Nat) (l : List Nat) : Prop := MemIs W B m (.slice (some ⟨g, 0, none⟩) 20 c) l
theorem lv_store (h : Mem20 W B m g c lv0) : Calls Try.prog 14 #[.pointer (some ⟨m, 0, none⟩), .int .u64 3, .int .i64 4, .agg #[.int .u64 0, .int .u64 287454020]] W fun e w' =>
    e = .returned (.int .i64 0) ∧ Mem20 w' B m g c lv1 ∧ W.grownBy w' (some g) :=
  store_c W B m (some ⟨g, 0, none⟩) 20 c 3 4 0 287454020 lv0 h widB4 (by decide) (by decide) (by decide)
theorem lv_load1 (h : Mem20 W B m g c lv1) : Calls Try.prog 15 #[.pointer (some ⟨m, 0, none⟩), .int .u64 3, .int .i64 2] W fun e w' =>
    e = .returned (.tuple #[.agg #[.int .u64 0, .int .u64 13124], .int .i64 0]) ∧ Below W.heap.size W w' := by
  have := load_c W B m (some ⟨g, 0, none⟩) 20 c 3 2 lv1 h (by decide) (by decide)
  rw [lv1_load.1, lv1_load.2] at this
  exact this
theorem lv_load2 (h : Mem20 W B m g c lv1) : Calls Try.prog 15 #[.pointer (some ⟨m, 0, none⟩), .int .u64 5, .int .i64 16] W fun e w' =>
    e = .returned (.tuple #[.agg #[.int .u64 0, .int .u64 0], .int .i64 280]) ∧ Below W.heap.size W w' :=
  load_bad W m (some ⟨g, 0, none⟩) 20 c 5 16 280 h.hd (by decide) (by decide) (by decide) (by decide) rfl
theorem lv_load3 (h : Mem20 W B m g c lv1) : Calls Try.prog 15 #[.pointer (some ⟨m, 0, none⟩), .int .u64 0, .int .i64 3] W fun e w' =>
    e = .returned (.tuple #[.agg #[.int .u64 0, .int .u64 0], .int .i64 2]) ∧ Below W.heap.size W w' :=
  load_bad W m (some ⟨g, 0, none⟩) 20 c 0 3 2 h.hd (by decide) (by decide) (by decide) (by decide) rfl
theorem lv_bytes (h : Mem20 W B m g c lv1) : Calls Try.prog 18 #[.pointer (some ⟨m, 0, none⟩), .int .u64 2, .int .i64 3] W fun e w' =>
    ∃ b d, e = .returned (.tuple #[.slice (some ⟨b, 0, none⟩) 3 d, .int .i64 0]) ∧ w'.cell? ⟨b, 1, none⟩ = some (.int .u8 68) ∧ Below W.heap.size W w' := by
  have := bytes_c W B m (some ⟨g, 0, none⟩) 20 c 2 3 lv1 h (by decide)
  rw [lv1_bytes] at this
  refine this.mono ?_
  rintro e w' ⟨ao, d, rfl, hr, hb, _⟩
  rcases hr.shape with ⟨h1, h2⟩ | ⟨b, d', h1, _⟩
  · cases h2
  · obtain ⟨rfl, _⟩ : ao = some ⟨b, 0, none⟩ ∧ d = d' := by simpa using h1
    exact ⟨b, d, rfl, hr.cell 1 (by decide), hb⟩
end
theorem lives_c (w : World) : Calls Try.prog 9 #[] w fun e w' => e = .returned (.bool true) ∧ Below w.heap.size w w' := by
  have N1 : Hid (Calls Try.prog 10 #[.int .i64 20] w fun e w' => ∃ m g c, e = .returned (.tuple #[.pointer (some ⟨m, 0, none⟩), .int .i64 0]) ∧ Mem20 w' w.heap.size m g c lv0 ∧ w.heap.size ≤ g ∧ Below w.heap.size w w') := Lib.hid (by
    refine (new_c w 20 (by decide)).mono ?_
    rintro e w' ⟨m, g, c, rfl, hM, hb⟩
    rw [List.length_replicate] at hM
    exact ⟨m, g, c, rfl, hM, (hM.own.lt g rfl).1, hb⟩)
  have N2 : Hid (∀ W, Calls Try.prog 10 #[.int .i64 1] W fun e w' => ∃ m ao c, e = .returned (.tuple #[.pointer (some ⟨m, 0, none⟩), .int .i64 0]) ∧ Head w' m ao 1 c ∧ Rd w' ao [0] ∧ Below W.heap.size W w') := Lib.hid (fun W => by
    refine (new_c W 1 (by decide)).mono ?_
    rintro e w' ⟨m, g, c, rfl, hM, hb⟩
    exact ⟨m, _, c, rfl, hM.hd, hM.own.rd, hb⟩)
  have N3 : Hid (∀ (W : World) (m : Nat) (ao : Option Addr) (c : Nat), Head W m ao 1 c → Rd W ao [0] → Calls Try.prog 24 #[.pointer (some ⟨m, 0, none⟩)] W fun e w' => e = .returned (.int .u64 12638153115695167455) ∧ w' = W) := Lib.hid (fun W m ao c h hr => by
    have := sum_c W m ao [0] c h hr (by decide)
    rw [fnv0] at this
    exact this)
  go_enter Try.func9, Try.ntmps9
  go_wp2_with (first
    | (go_at_call 10; (with_reducible refine N1.out.mono ?_); rintro e w1 ⟨m, g, c, rfl, hM, hgB, hb⟩; clear N1)
    | (go_at_call 14; (with_reducible refine (lv_store w.heap.size _ m g c hM).mono ?_); rintro e w2 ⟨rfl, hM2, hg2⟩; have hb2 := hb.grown hg2 hb.size (fun k hk => by cases hk; exact hgB); clear hM hb hg2)
    | (go_at_call 15; (with_reducible refine (lv_load1 w.heap.size _ m g c hM2).mono ?_); rintro e w3 ⟨rfl, h3⟩; have hM3 := (hM2.later h3).later ((Below.refl _ w3).alloc (Nat.le_refl _) (.cells #[.int .u64 0, .int .u64 13124] 35)); have hb3 := hb2.trans (h3.mono hb2.size); have hc3 : (w3.alloc (.cells #[.int .u64 0, .int .u64 13124] 35)).cell? ⟨w3.heap.size, 1, none⟩ = some (.int .u64 13124) := (Blk.new w3 #[.int .u64 0, .int .u64 13124] 35).cell 1; clear hM2 hb2 h3)
    | (go_at_call 15; (with_reducible refine (lv_load2 w.heap.size _ m g c hM3).mono ?_); rintro e w4 ⟨rfl, h4⟩; have hM4 := (hM3.later h4).later ((Below.refl _ w4).alloc (Nat.le_refl _) (.cells #[.int .u64 0, .int .u64 0] 35)); have hb4 := (hb3.alloc hb3.size _).trans (h4.mono (by simp; have := hb3.size; omega)); have hc4 := cell_alloc (cell_later h4 hc3) (.cells #[.int .u64 0, .int .u64 0] 35); clear hM3 hb3 hc3 h4)
    | (go_at_call 15; (with_reducible refine (lv_load3 w.heap.size _ m g c hM4).mono ?_); rintro e w5 ⟨rfl, h5⟩; have hM5 := (hM4.later h5).later ((Below.refl _ w5).alloc (Nat.le_refl _) (.cells #[.int .u64 0, .int .u64 0] 35)); have hb5 := (hb4.alloc hb4.size _).trans (h5.mono (by simp; have := hb4.size; omega)); have hc5 := cell_alloc (cell_later h5 hc4) (.cells #[.int .u64 0, .int .u64 0] 35); clear hM4 hb4 hc4 h5)
    | (go_at_call 18; (with_reducible refine (lv_bytes w.heap.size _ m g c hM5).mono ?_); rintro e w6 ⟨b, d, rfl, hc6, h6⟩; have hb6 := (hb5.alloc hb5.size _).trans (h6.mono (by simp; have := hb5.size; omega)); have hd6 := cell_later h6 hc5; clear hM5 hb5 h6 hc5)
    | (go_at_call 10; (with_reducible refine (N2.out _).mono ?_); rintro e w7 ⟨m7, a7, c7, rfl, hH7, hr7, h7⟩; have hc7 := cell_later h7 hc6; have hd7 := cell_later h7 hd6; have hb7 := hb6.trans (h7.mono hb6.size); clear hc6 hd6 h7 hb6)
    | (go_at_call 24; (with_reducible refine (N3.out _ _ _ _ hH7 hr7).mono ?_); rintro e w8 ⟨rfl, rfl⟩))
  go_ret
  exact ⟨rfl, hb7⟩
end Go.Proofs.Ytdgdmhmagdjeoaa
