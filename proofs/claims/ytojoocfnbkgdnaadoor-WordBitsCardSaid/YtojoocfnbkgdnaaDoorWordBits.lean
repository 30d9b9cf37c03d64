/- The walk of the law WordBits. -/
import Derived.Test.YtojoocfnbkgdnaaDoorRows
import Derived.Test.YtojoocfnbkgdnaaDoorA
import Derived.Test.YtojoocfnbkgdnaaDoorTo
import Derived.Test.YtojoocfnbkgdnaaDoorTz
namespace Go.Proofs.YtojoocfnbkgdnaaDoor
open Go.RowKit
set_option maxHeartbeats 4000000
set_option maxRecDepth 100000
set_option linter.unusedVariables false
theorem walk_WordBits (x : Nat) (hx : x < 18446744073709551616) (w : World) (hT : Tab w) :
    Calls Tryd.prog 3 #[.int .u64 (x : Nat)] w fun e w' => e = .returned (.bool true) ∧ Below w.heap.size w w' := by
  obtain ⟨r, hr⟩ : ∃ r, isqrt x = r := ⟨_, rfl⟩
  obtain ⟨s, hs⟩ : ∃ s, x - isqrt x * isqrt x = s := ⟨_, rfl⟩
  obtain ⟨l, hl⟩ : ∃ s, Lib.bitLen x = s := ⟨_, rfl⟩
  obtain ⟨z, hz⟩ : ∃ s, Lib.ctz 64 x = s := ⟨_, rfl⟩
  obtain ⟨o, ho⟩ : ∃ s, onesW x = s := ⟨_, rfl⟩
  have C1 : Hid (∀ W, Calls Tryd.prog 4 #[.int .u64 (x : Nat)] W fun e w' => e = .returned (.tuple #[.int .u64 (r : Nat), .int .u64 (s : Nat)]) ∧ w' = W) := Lib.hid fun W => by have := sqrt_e x W hx; rwa [hs, hr] at this
  have C2 : Hid (∀ W, Calls Tryd.prog 5 #[.int .u64 (x : Nat)] W fun e w' => e = .returned (.tuple #[.int .u64 (r : Nat), .int .u64 (s : Nat)]) ∧ w' = W) := Lib.hid fun W => by have := rsqrt_e x W hx; rwa [hs, hr] at this
  have C3 : Hid (∀ W, Calls Tryd.prog 6 #[.int .u64 (x : Nat)] W fun e w' => e = .returned (.int .i64 (l : Nat)) ∧ w' = W) := Lib.hid fun W => by have := len_c x W hx; rwa [hl] at this
  have C4 : Hid (∀ W, Calls Tryd.prog 7 #[.int .u64 (x : Nat)] W fun e w' => e = .returned (.int .i64 (l : Nat)) ∧ w' = W) := Lib.hid fun W => by have := rlen_c x W hx; rwa [hl] at this
  have C5 : Hid (Calls Tryd.prog 8 #[.int .u64 (x : Nat)] w fun e w' => e = .returned (.int .i64 (z : Nat)) ∧ w' = w) := Lib.hid (by have := low_c x w hx hT; rwa [hz] at this)
  have C6 : Hid (∀ W, Calls Tryd.prog 9 #[.int .u64 (x : Nat)] W fun e w' => e = .returned (.int .i64 (z : Nat)) ∧ w' = W) := Lib.hid fun W => by have := rlow_c x W hx; rwa [hz] at this
  have C7 : Hid (∀ W, Calls Tryd.prog 10 #[.int .u64 (x : Nat)] W fun e w' => e = .returned (.int .i64 (o : Nat)) ∧ w' = W) := Lib.hid fun W => by have := ones_c x W hx; rwa [ho] at this
  have C8 : Hid (∀ W, Calls Tryd.prog 11 #[.int .u64 (x : Nat)] W fun e w' => e = .returned (.int .i64 (o : Nat)) ∧ w' = W) := Lib.hid fun W => by have := rones_c x W; rwa [ho] at this
  clear hr hs hl hz ho hx hT
  go_enter Tryd.func3, Tryd.ntmps3
  go_wp2_with (first
    | (go_at_call 4; (with_reducible refine (C1.out _).mono ?_); rintro e w' ⟨rfl, rfl⟩)
    | (go_at_call 5; (with_reducible refine (C2.out _).mono ?_); rintro e w' ⟨rfl, rfl⟩)
    | (go_at_call 6; (with_reducible refine (C3.out _).mono ?_); rintro e w' ⟨rfl, rfl⟩)
    | (go_at_call 7; (with_reducible refine (C4.out _).mono ?_); rintro e w' ⟨rfl, rfl⟩)
    | (go_at_call 8; (with_reducible refine C5.out.mono ?_); rintro e w' ⟨rfl, rfl⟩)
    | (go_at_call 9; (with_reducible refine (C6.out _).mono ?_); rintro e w' ⟨rfl, rfl⟩)
    | (go_at_call 10; (with_reducible refine (C7.out _).mono ?_); rintro e w' ⟨rfl, rfl⟩)
    | (go_at_call 11; (with_reducible refine (C8.out _).mono ?_); rintro e w' ⟨rfl, rfl⟩)
    | (go_at_call 12; (with_reducible refine (alive_c _).mono ?_); rintro e w' ⟨rfl, rfl⟩))
  go_ret
  exact ⟨rfl, Below.refl _ _⟩
end Go.Proofs.YtojoocfnbkgdnaaDoor
