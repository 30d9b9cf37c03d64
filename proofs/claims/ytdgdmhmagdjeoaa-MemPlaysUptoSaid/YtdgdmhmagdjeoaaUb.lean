/- Contracts of the functions of package mem that only read a memory's head. -/
import Derived.Test.YtdgdmhmagdjeoaaRows
import Derived.Test.YtdgdmhmagdjeoaaUa
import Derived.LoopTactic
import Derived.IntWalk
namespace Go.Proofs.Ytdgdmhmagdjeoaa
open Go.RowKit
set_option maxHeartbeats 4000000
set_option maxRecDepth 100000
set_option linter.unusedVariables false
set_option linter.unusedSimpArgs false
/-- the memory's head at m -/
structure Head (w : World) (m : Nat) (ao : Option Addr) (n cap : Nat) : Prop where
  made : w.cell? ⟨m, 0, none⟩ = some (.bool true)
  row : w.cell? ⟨m, 1, none⟩ = some (.slice ao n cap)
  len : n ≤ 16777216
theorem MemIs.hd {w : World} {B m : Nat} {ao : Option Addr} {n cap : Nat} {l : List Nat} (h : MemIs w B m (.slice ao n cap) l) : Head w m ao n cap :=
  ⟨by rw [h.head.cell]; rfl, by rw [h.head.cell]; rfl, by rw [h.own.n_eq]; exact h.len⟩
theorem Head.below {w w1 : World} {m : Nat} {ao : Option Addr} {n cap : Nat} (h : Head w m ao n cap) (hb : Below w.heap.size w w1) : Head w1 m ao n cap :=
  have hm := World.block_lt_of_cell? w _ h.made
  ⟨(hb.cell (p := ⟨m, 0, none⟩) hm).trans h.made, (hb.cell (p := ⟨m, 1, none⟩) hm).trans h.row, h.len⟩
theorem Head.alloc {w : World} {m : Nat} {ao : Option Addr} {n cap : Nat} (h : Head w m ao n cap) (o : Obj) : Head (w.alloc o) m ao n cap := h.below ((Below.refl _ w).alloc (Nat.le_refl _) o)
theorem none_c (w : World) (m : Nat) (ao : Option Addr) (n cap : Nat) (h : Head w m ao n cap) :
    Calls Try.prog 31 #[.pointer (some ⟨m, 0, none⟩)] w fun e w' => e = .returned (.bool false) ∧ w' = w := by
  have h1 := h.made
  clear h
  go_enter Try.func31, Try.ntmps31
  go_wp2
  go_ret
  exact ⟨rfl, rfl⟩
theorem none_no (w : World) (p : Value) (h : NoMem w p) :
    Calls Try.prog 31 #[p] w fun e w' => e = .returned (.bool true) ∧ w' = w := by
  rcases h with rfl | ⟨m, rfl, h1⟩
  · go_enter Try.func31, Try.ntmps31
    go_wp2
    go_ret
    exact ⟨rfl, rfl⟩
  · go_enter Try.func31, Try.ntmps31
    go_wp2
    go_ret
    exact ⟨rfl, rfl⟩
theorem width_c (w : World) (k : Int) : Calls Try.prog 43 #[.int .i64 k] w fun e w' => e = .returned (.bool (widB k)) ∧ w' = w := by
  go_enter Try.func43, Try.ntmps43
  go_wp2
  all_goals
    go_ret
    exact ⟨by simp [widB, *], rfl⟩
theorem is_c (w : World) (k : Int) : Calls Try.prog 41 #[.int .i64 k] w fun e w' => e = .returned (.bool (widB k)) ∧ w' = w := by
  go_enter Try.func41, Try.ntmps41
  go_wp2
  all_goals
    go_ret
    exact ⟨by simp [widB, *], rfl⟩
theorem there_c (w : World) (m : Nat) (ao : Option Addr) (n cap a : Nat) (k : Int) (h : Head w m ao n cap) (ha : a < 18446744073709551616) (hk : -9223372036854775808 ≤ k) (hk2 : k ≤ 9223372036854775807) :
    Calls Try.prog 33 #[.pointer (some ⟨m, 0, none⟩), .int .u64 a, .int .i64 k] w fun e w' => e = .returned (.bool (thB n a k)) ∧ w' = w := by
  have h1 := h.made
  have h2 := h.row
  have h3 := h.len
  clear h
  go_enter Try.func33, Try.ntmps33
  go_wp2
  all_goals go_ret
  · exact ⟨ret1 (vbool (thB_yes ‹_› (by omega) hk hk2)), rfl⟩
  · exact ⟨ret1 (vbool (thB_no ‹_›)), rfl⟩
theorem rthere_c (w : World) (ao : Option Addr) (n cap a : Nat) (k : Int) (hn : n ≤ 9223372036854775807) (ha : a < 18446744073709551616) (hk : -9223372036854775808 ≤ k) (hk2 : k ≤ 9223372036854775807) :
    Calls Try.prog 42 #[.slice ao n cap, .int .u64 a, .int .i64 k] w fun e w' => e = .returned (.bool (thB n a k)) ∧ w' = w := by
  go_enter Try.func42, Try.ntmps42
  go_wp2
  all_goals go_ret
  · exact ⟨ret1 (vbool (thB_yes ‹_› (by omega) hk hk2)), rfl⟩
  · exact ⟨ret1 (vbool (thB_no ‹_›)), rfl⟩
theorem check_c (w : World) (m : Nat) (ao : Option Addr) (n cap a : Nat) (k : Int) (h : Head w m ao n cap) (ha : a < 18446744073709551616) (hk : -9223372036854775808 ≤ k) (hk2 : k ≤ 9223372036854775807) :
    Calls Try.prog 32 #[.pointer (some ⟨m, 0, none⟩), .int .u64 a, .int .i64 k] w fun e w' => e = .returned (.int .i64 (chk n a k)) ∧ w' = w := by
  have C1 := Lib.hid (none_c w m ao n cap h)
  have C2 := Lib.hid (width_c w k)
  have C3 := Lib.hid (there_c w m ao n cap a k h ha hk hk2)
  obtain ⟨x, hx⟩ : ∃ x, widB k = x := ⟨_, rfl⟩
  obtain ⟨y, hy⟩ : ∃ y, thB n a k = y := ⟨_, rfl⟩
  rw [hx] at C2
  rw [hy] at C3
  unfold chk
  rw [hx, hy]
  clear hx hy
  cases x <;> cases y <;>
  · go_enter Try.func32, Try.ntmps32
    go_wp2_with (first
      | (go_at_call 31; (with_reducible refine C1.out.mono ?_); rintro e w' ⟨rfl, rfl⟩)
      | (go_at_call 43; (with_reducible refine C2.out.mono ?_); rintro e w' ⟨rfl, rfl⟩)
      | (go_at_call 33; (with_reducible refine C3.out.mono ?_); rintro e w' ⟨rfl, rfl⟩))
    go_ret
    exact ⟨rfl, rfl⟩
theorem check_no (w : World) (p : Value) (a : Nat) (k : Int) (h : NoMem w p) :
    Calls Try.prog 32 #[p, .int .u64 a, .int .i64 k] w fun e w' => e = .returned (.int .i64 1) ∧ w' = w := by
  have C1 := Lib.hid (none_no w p h)
  clear h
  go_enter Try.func32, Try.ntmps32
  go_wp2_with (first
    | (go_at_call 31; (with_reducible refine C1.out.mono ?_); rintro e w' ⟨rfl, rfl⟩))
  go_ret
  exact ⟨rfl, rfl⟩
theorem within_c (w : World) (m : Nat) (ao : Option Addr) (n cap a : Nat) (k : Int) (h : Head w m ao n cap) (ha : a < 18446744073709551616) (hk : -9223372036854775808 ≤ k) (hk2 : k ≤ 9223372036854775807) :
    Calls Try.prog 17 #[.pointer (some ⟨m, 0, none⟩), .int .u64 a, .int .i64 k] w fun e w' => e = .returned (.bool (chk n a k == 0)) ∧ w' = w := by
  have C1 := Lib.hid (check_c w m ao n cap a k h ha hk hk2)
  clear h
  go_enter Try.func17, Try.ntmps17
  go_wp2_with (first
    | (go_at_call 32; (with_reducible refine C1.out.mono ?_); rintro e w' ⟨rfl, rfl⟩))
  go_ret
  exact ⟨rfl, rfl⟩
theorem within_no (w : World) (p : Value) (a : Nat) (k : Int) (h : NoMem w p) :
    Calls Try.prog 17 #[p, .int .u64 a, .int .i64 k] w fun e w' => e = .returned (.bool false) ∧ w' = w := by
  have C1 := Lib.hid (check_no w p a k h)
  clear h
  go_enter Try.func17, Try.ntmps17
  go_wp2_with (first
    | (go_at_call 32; (with_reducible refine C1.out.mono ?_); rintro e w' ⟨rfl, rfl⟩))
  go_ret
  exact ⟨rfl, rfl⟩
theorem len_c (w : World) (m : Nat) (ao : Option Addr) (n cap : Nat) (h : Head w m ao n cap) :
    Calls Try.prog 11 #[.pointer (some ⟨m, 0, none⟩)] w fun e w' => e = .returned (.int .i64 (n : Nat)) ∧ w' = w := by
  have C1 := Lib.hid (none_c w m ao n cap h)
  have h1 := h.made
  have h2 := h.row
  have h3 := h.len
  clear h
  go_enter Try.func11, Try.ntmps11
  go_wp2_with (first
    | (go_at_call 31; (with_reducible refine C1.out.mono ?_); rintro e w' ⟨rfl, rfl⟩))
  go_ret
  exact ⟨rfl, rfl⟩
theorem len_no (w : World) (p : Value) (h : NoMem w p) :
    Calls Try.prog 11 #[p] w fun e w' => e = .returned (.int .i64 0) ∧ w' = w := by
  have C1 := Lib.hid (none_no w p h)
  clear h
  go_enter Try.func11, Try.ntmps11
  go_wp2_with (first
    | (go_at_call 31; (with_reducible refine C1.out.mono ?_); rintro e w' ⟨rfl, rfl⟩))
  go_ret
  exact ⟨rfl, rfl⟩
end Go.Proofs.Ytdgdmhmagdjeoaa
