/- The walk of the law WideSums. -/
import Derived.Test.YtlpgflmjpdhpnaaRows
import Derived.Test.YtlpgflmjpdhpnaaE
import Derived.Test.YtlpgflmjpdhpnaaXa
import Derived.Test.YtlpgflmjpdhpnaaXd
import Derived.Test.YtlpgflmjpdhpnaaXf
import Derived.Test.YtlpgflmjpdhpnaaYa
namespace Go.Proofs.Ytlpgflmjpdhpnaa
open Go.RowKit
set_option maxHeartbeats 4000000
set_option maxRecDepth 100000
set_option linter.unusedVariables false
set_option linter.unusedSimpArgs false
attribute [local irreducible] wv
theorem walk_WideSums (a b : Nat) (ha : a < W384) (hb : b < W384) (w : World) : Calls Try.prog 6 #[.agg (wv a), .agg (wv b)] w fun e w' => e = .returned (.bool true) ∧ Below w.heap.size w w' := by
  obtain ⟨x, hx⟩ : ∃ x, addW a b = x := ⟨_, rfl⟩
  obtain ⟨d, hd⟩ : ∃ d, subW a b = d := ⟨_, rfl⟩
  obtain ⟨o, ho⟩ : ∃ o, decide (W384 ≤ a + b) = o := ⟨_, rfl⟩
  obtain ⟨p, hp⟩ : ∃ p, decide (a < b) = p := ⟨_, rfl⟩
  have lx : x < W384 := by rw [← hx]; exact addW_lt _ _
  have ld : d < W384 := by rw [← hd]; exact subW_lt _ _
  have hm : Try.prog.eqGuardType Try.prog.depth 24 = false := by kernel_rfl
  have q0 : ∀ w, (binOp .eql 24 (.agg (wv x)) (.agg (wv x))).run Try.prog w = .ok (.bool true) w := fun w => by
    have := run_eql_wv Try.underlying24 Try.underlying22 (by kernel_rfl) x x (lx) (lx) w
    rwa [decide_eq_true rfl] at this
  have q1 : ∀ w, (binOp .eql 24 (.agg (wv d)) (.agg (wv d))).run Try.prog w = .ok (.bool true) w := fun w => by
    have := run_eql_wv Try.underlying24 Try.underlying22 (by kernel_rfl) d d (ld) (ld) w
    rwa [decide_eq_true rfl] at this
  have C0 : Hid (∀ W, Calls Try.prog 22 #[.agg (wv a), .agg (wv b)] W fun e w' => e = .returned (.tuple #[.agg (wv x), .bool o]) ∧ Below W.heap.size W w') := Lib.hid (fun W => by have := wadd_c a b W ha hb; rwa [hx, ho] at this)
  have C1 : Hid (∀ W, Calls Try.prog 23 #[.agg (wv a), .agg (wv b)] W fun e w' => e = .returned (.tuple #[.agg (wv x), .bool o]) ∧ Below W.heap.size W w') := Lib.hid (fun W => by have := radd2_c a b W ha hb; rwa [hx, ho] at this)
  have C2 : Hid (∀ W, Calls Try.prog 24 #[.agg (wv a), .agg (wv b)] W fun e w' => e = .returned (.tuple #[.agg (wv d), .bool p]) ∧ Below W.heap.size W w') := Lib.hid (fun W => by have := wsub_c a b W ha hb; rwa [hd, hp] at this)
  have C3 : Hid (∀ W, Calls Try.prog 25 #[.agg (wv a), .agg (wv b)] W fun e w' => e = .returned (.tuple #[.agg (wv d), .bool p]) ∧ Below W.heap.size W w') := Lib.hid (fun W => by have := rsub2_c a b W ha hb; rwa [hd, hp] at this)
  have C4 : Hid (∀ W, Calls Try.prog 16 #[] W fun e w' => e = .returned (.bool true) ∧ Below W.heap.size W w') := Lib.hid (fun W => alive2_c W)
  clear hx hd ho hp lx ld ha hb
  go_enter Try.func6, Try.ntmps6
  have HS0 := Lib.hid (((St.nil 24 w).boxAt a (w.heap.size) (by simp)).boxAt b (w.heap.size + 1) (by simp))
  have g0 : Blk ((w.alloc (.cells (wv a) 24)).alloc (.cells (wv b) 24)) (w.heap.size + 1) (wv b) 24 := HS0.out.all 0 _ rfl
  have g1 : Blk ((w.alloc (.cells (wv a) 24)).alloc (.cells (wv b) 24)) (w.heap.size) (wv a) 24 := HS0.out.all 1 _ rfl
  go_wp2_with (first
    | (refine wpList_load_wv rfl 24 _ rfl _ rfl 24 _ _ (by with_reducible assumption) Try.underlying24 rfl (by kernel_rfl) ?_)
    | (refine wpList_load_wv_g rfl 24 _ rfl _ rfl 24 _ _ (by with_reducible assumption) Try.underlying24 rfl (by kernel_rfl) ?_)
    | (refine wpList_store_wv rfl 24 _ _ rfl _ _ rfl rfl 24 _ (Blk.zeroAt _ _ rfl) (by kernel_rfl) ?_)
    | (go_at_call 22; (with_reducible refine (C0.out _).mono ?_); rintro e w0 ⟨rfl, b0⟩; clear C0; have HS1 : Hid (St _ 24 w ((w0.alloc (.cells #[.int .u64 0, .int .u64 0, .int .u64 0, .int .u64 0, .int .u64 0, .int .u64 0] 24)).setRow w0.heap.size (wv x))) := Lib.hid (HS0.out.next b0 x _); clear g0 g1 b0 HS0; have g0 : Blk ((w0.alloc (.cells #[.int .u64 0, .int .u64 0, .int .u64 0, .int .u64 0, .int .u64 0, .int .u64 0] 24)).setRow w0.heap.size (wv x)) (w0.heap.size) (wv x) 24 := HS1.out.all 0 _ rfl; have g1 : Blk ((w0.alloc (.cells #[.int .u64 0, .int .u64 0, .int .u64 0, .int .u64 0, .int .u64 0, .int .u64 0] 24)).setRow w0.heap.size (wv x)) (w.heap.size + 1) (wv b) 24 := HS1.out.all 1 _ rfl; have g2 : Blk ((w0.alloc (.cells #[.int .u64 0, .int .u64 0, .int .u64 0, .int .u64 0, .int .u64 0, .int .u64 0] 24)).setRow w0.heap.size (wv x)) (w.heap.size) (wv a) 24 := HS1.out.all 2 _ rfl)
    | (go_at_call 23; (with_reducible refine (C1.out _).mono ?_); rintro e w1 ⟨rfl, b1⟩; clear C1; have HS2 : Hid (St _ 24 w ((w1.alloc (.cells #[.int .u64 0, .int .u64 0, .int .u64 0, .int .u64 0, .int .u64 0, .int .u64 0] 24)).setRow w1.heap.size (wv x))) := Lib.hid (HS1.out.next b1 x _); clear g0 g1 g2 b1 HS1; have g0 : Blk ((w1.alloc (.cells #[.int .u64 0, .int .u64 0, .int .u64 0, .int .u64 0, .int .u64 0, .int .u64 0] 24)).setRow w1.heap.size (wv x)) (w1.heap.size) (wv x) 24 := HS2.out.all 0 _ rfl; have g1 : Blk ((w1.alloc (.cells #[.int .u64 0, .int .u64 0, .int .u64 0, .int .u64 0, .int .u64 0, .int .u64 0] 24)).setRow w1.heap.size (wv x)) (w0.heap.size) (wv x) 24 := HS2.out.all 1 _ rfl; have g2 : Blk ((w1.alloc (.cells #[.int .u64 0, .int .u64 0, .int .u64 0, .int .u64 0, .int .u64 0, .int .u64 0] 24)).setRow w1.heap.size (wv x)) (w.heap.size + 1) (wv b) 24 := HS2.out.all 2 _ rfl; have g3 : Blk ((w1.alloc (.cells #[.int .u64 0, .int .u64 0, .int .u64 0, .int .u64 0, .int .u64 0, .int .u64 0] 24)).setRow w1.heap.size (wv x)) (w.heap.size) (wv a) 24 := HS2.out.all 3 _ rfl)
    | (go_at_call 24; (with_reducible refine (C2.out _).mono ?_); rintro e w2 ⟨rfl, b2⟩; clear C2; have HS3 : Hid (St _ 24 w ((w2.alloc (.cells #[.int .u64 0, .int .u64 0, .int .u64 0, .int .u64 0, .int .u64 0, .int .u64 0] 24)).setRow w2.heap.size (wv d))) := Lib.hid (HS2.out.next b2 d _); clear g0 g1 g2 g3 b2 HS2; have g0 : Blk ((w2.alloc (.cells #[.int .u64 0, .int .u64 0, .int .u64 0, .int .u64 0, .int .u64 0, .int .u64 0] 24)).setRow w2.heap.size (wv d)) (w2.heap.size) (wv d) 24 := HS3.out.all 0 _ rfl; have g1 : Blk ((w2.alloc (.cells #[.int .u64 0, .int .u64 0, .int .u64 0, .int .u64 0, .int .u64 0, .int .u64 0] 24)).setRow w2.heap.size (wv d)) (w1.heap.size) (wv x) 24 := HS3.out.all 1 _ rfl; have g2 : Blk ((w2.alloc (.cells #[.int .u64 0, .int .u64 0, .int .u64 0, .int .u64 0, .int .u64 0, .int .u64 0] 24)).setRow w2.heap.size (wv d)) (w0.heap.size) (wv x) 24 := HS3.out.all 2 _ rfl; have g3 : Blk ((w2.alloc (.cells #[.int .u64 0, .int .u64 0, .int .u64 0, .int .u64 0, .int .u64 0, .int .u64 0] 24)).setRow w2.heap.size (wv d)) (w.heap.size + 1) (wv b) 24 := HS3.out.all 3 _ rfl; have g4 : Blk ((w2.alloc (.cells #[.int .u64 0, .int .u64 0, .int .u64 0, .int .u64 0, .int .u64 0, .int .u64 0] 24)).setRow w2.heap.size (wv d)) (w.heap.size) (wv a) 24 := HS3.out.all 4 _ rfl)
    | (go_at_call 25; (with_reducible refine (C3.out _).mono ?_); rintro e w3 ⟨rfl, b3⟩; clear C3; have HS4 : Hid (St _ 24 w ((w3.alloc (.cells #[.int .u64 0, .int .u64 0, .int .u64 0, .int .u64 0, .int .u64 0, .int .u64 0] 24)).setRow w3.heap.size (wv d))) := Lib.hid (HS3.out.next b3 d _); clear g0 g1 g2 g3 g4 b3 HS3; have g0 : Blk ((w3.alloc (.cells #[.int .u64 0, .int .u64 0, .int .u64 0, .int .u64 0, .int .u64 0, .int .u64 0] 24)).setRow w3.heap.size (wv d)) (w3.heap.size) (wv d) 24 := HS4.out.all 0 _ rfl; have g1 : Blk ((w3.alloc (.cells #[.int .u64 0, .int .u64 0, .int .u64 0, .int .u64 0, .int .u64 0, .int .u64 0] 24)).setRow w3.heap.size (wv d)) (w2.heap.size) (wv d) 24 := HS4.out.all 1 _ rfl; have g2 : Blk ((w3.alloc (.cells #[.int .u64 0, .int .u64 0, .int .u64 0, .int .u64 0, .int .u64 0, .int .u64 0] 24)).setRow w3.heap.size (wv d)) (w1.heap.size) (wv x) 24 := HS4.out.all 2 _ rfl; have g3 : Blk ((w3.alloc (.cells #[.int .u64 0, .int .u64 0, .int .u64 0, .int .u64 0, .int .u64 0, .int .u64 0] 24)).setRow w3.heap.size (wv d)) (w0.heap.size) (wv x) 24 := HS4.out.all 3 _ rfl; have g4 : Blk ((w3.alloc (.cells #[.int .u64 0, .int .u64 0, .int .u64 0, .int .u64 0, .int .u64 0, .int .u64 0] 24)).setRow w3.heap.size (wv d)) (w.heap.size + 1) (wv b) 24 := HS4.out.all 4 _ rfl; have g5 : Blk ((w3.alloc (.cells #[.int .u64 0, .int .u64 0, .int .u64 0, .int .u64 0, .int .u64 0, .int .u64 0] 24)).setRow w3.heap.size (wv d)) (w.heap.size) (wv a) 24 := HS4.out.all 5 _ rfl)
    | (go_at_call 16; (with_reducible refine (C4.out _).mono ?_); rintro e w4 ⟨rfl, b4⟩; clear C4; have HS5 := Lib.hid (HS4.out.call b4)))
  go_ret
  exact ⟨rfl, HS5.out.le⟩
end Go.Proofs.Ytlpgflmjpdhpnaa
