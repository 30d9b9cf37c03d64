/- The walk of MemMost: the greatest memory, its last bytes, one byte more: the answer is true. No condition. -/
import Derived.Test.YtdgdmhmagdjeoaaUh
namespace Go.Proofs.Ytdgdmhmagdjeoaa
open Go.RowKit
set_option maxHeartbeats 4000000
set_option maxRecDepth 100000
set_option linter.unusedVariables false
set_option linter.unusedSimpArgs false
set_option exponentiation.threshold 1000
def mm1 : List Nat := put (List.replicate 16777216 0) 16777200 (leB 16 18446744073709551618)
theorem mm1_part : part mm1 16777208 8 = [1, 0, 0, 0, 0, 0, 0, 0] := by
  unfold mm1
  rw [show 16777208 = 16777200 + 8 from rfl, part_put (by rw [List.length_replicate]; decide) (by rw [leB_length]; decide)]
  decide +kernel
theorem mm1_load : leN (part mm1 16777208 8) / 18446744073709551616 = 0 ∧ leN (part mm1 16777208 8) % 18446744073709551616 = 1 := by
  rw [mm1_part]; decide +kernel
abbrev MemM (W : World) (B m g c : Nat) (l : List Nat) : Prop := MemIs W B m (.slice (some ⟨g, 0, none⟩) 16777216 c) l
section
variable (B : Nat) (W : World) (m g c : Nat)
theorem mm_store (h : MemM W B m g c (List.replicate 16777216 0)) : Calls Try.prog 14 #[.pointer (some ⟨m, 0, none⟩), .int .u64 16777200, .int .i64 16, .agg #[.int .u64 1, .int .u64 2]] W fun e w' =>
    e = .returned (.int .i64 0) ∧ MemM w' B m g c mm1 ∧ W.grownBy w' (some g) :=
  store_c W B m (some ⟨g, 0, none⟩) 16777216 c 16777200 16 1 2 _ h (by decide) (by decide) (by decide) (by decide)
theorem mm_load1 (h : MemM W B m g c mm1) : Calls Try.prog 15 #[.pointer (some ⟨m, 0, none⟩), .int .u64 16777208, .int .i64 8] W fun e w' =>
    e = .returned (.tuple #[.agg #[.int .u64 0, .int .u64 1], .int .i64 0]) ∧ Below W.heap.size W w' := by
  have := load_c W B m (some ⟨g, 0, none⟩) 16777216 c 16777208 8 mm1 h (by decide) (by decide)
  rw [mm1_load.1, mm1_load.2] at this
  exact this
theorem mm_load2 (h : MemM W B m g c mm1) : Calls Try.prog 15 #[.pointer (some ⟨m, 0, none⟩), .int .u64 16777201, .int .i64 16] W fun e w' =>
    e = .returned (.tuple #[.agg #[.int .u64 0, .int .u64 0], .int .i64 280]) ∧ Below W.heap.size W w' :=
  load_bad W m (some ⟨g, 0, none⟩) 16777216 c 16777201 16 280 h.hd (by decide) (by decide) (by decide) (by decide) rfl
end
theorem walk_MemMost (w : World) : Calls Try.prog 4 #[] w fun e w' => e = .returned (.bool true) ∧ Below w.heap.size w w' := by
  obtain ⟨i5, hi, hz0, hz1, hz2⟩ := info_parts infoB
  obtain ⟨n, hn⟩ : ∃ n : Nat, n = 16777217 := ⟨_, rfl⟩
  have hnI : (16777217 : Int) = (n : Int) := by omega
  have HNI := Lib.hid hnI
  have hn1 : 16777216 < n := by omega
  have hn2 : n ≤ 16777217 := by omega
  clear hn hnI
  have N1 : Hid (Calls Try.prog 10 #[.int .i64 16777216] w fun e w' => ∃ m g c, e = .returned (.tuple #[.pointer (some ⟨m, 0, none⟩), .int .i64 0]) ∧ MemM w' w.heap.size m g c (List.replicate 16777216 0) ∧ w.heap.size ≤ g ∧ Below w.heap.size w w') := Lib.hid (by
    refine (new_c w 16777216 (by decide)).mono ?_
    rintro e w' ⟨m, g, c, rfl, hM, hb⟩
    rw [List.length_replicate] at hM
    exact ⟨m, g, c, rfl, hM, (hM.own.lt g rfl).1, hb⟩)
  go_enter Try.func4, Try.ntmps4
  go_wp2_with (first
    | (go_at_call 10; (with_reducible refine N1.out.mono ?_); rintro e w1 ⟨m, g, c, rfl, hM, hgB, hb⟩; clear N1)
    | (go_at_call 14; (with_reducible refine (mm_store w.heap.size _ m g c hM).mono ?_); rintro e w2 ⟨rfl, hM2, hg2⟩; have hb2 := hb.grown hg2 hb.size (fun k hk => by cases hk; exact hgB); clear hM hb hg2)
    | (go_at_call 15; (with_reducible refine (mm_load1 w.heap.size _ m g c hM2).mono ?_); rintro e w3 ⟨rfl, h3⟩; have hM3 := (hM2.later h3).later (below_alloc w3 (.cells #[.int .u64 0, .int .u64 1] 35)); have hb3 := hb2.trans (h3.mono hb2.size); have hc3 : (w3.alloc (.cells #[.int .u64 0, .int .u64 1] 35)).cell? ⟨w3.heap.size, 1, none⟩ = some (.int .u64 1) := (Blk.new w3 #[.int .u64 0, .int .u64 1] 35).cell 1; clear hM2 hb2 h3)
    | (go_at_call 15; (with_reducible refine (mm_load2 w.heap.size _ m g c hM3).mono ?_); rintro e w4 ⟨rfl, h4⟩; have hb4 := (hb3.alloc hb3.size _).trans (h4.mono (by simp; have := hb3.size; omega)); have hc4 := cell_alloc (cell_later h4 hc3) (.cells #[.int .u64 0, .int .u64 0] 35); have hb4' := hb4.alloc hb4.size (.cells #[.int .u64 0, .int .u64 0] 35); clear hM3 hb3 hc3 h4 hb4)
    | (at_make; refine wpList_make_full _ rfl _ _ 29 rfl _ 5 i5 (.int .u8 0) 1 Try.underlying29 hi hz0 hz1 _ _ _ _ n rfl rfl HNI.out HNI.out (by rw [hz2]; omega) (by unfold maxLen; omega) (Nat.le_refl _) ?_; intro w5 hown5 hgrow5; have hc5 := cell_later (grown_below hgrow5) hc4; have hb5 := hb4'.trans ((grown_below hgrow5).mono hb4'.size); clear hown5 hgrow5 hc4 hb4')
    | (go_at_call 16; (with_reducible refine (of_big _ _ n _ hn1 (by omega)).mono ?_); rintro e w6 ⟨rfl, rfl⟩)
    | (go_at_call 9; (with_reducible refine (lives_c _).mono ?_); rintro e w7 ⟨rfl, h7⟩))
  go_ret
  exact ⟨rfl, hb5.trans (h7.mono hb5.size)⟩
end Go.Proofs.Ytdgdmhmagdjeoaa
