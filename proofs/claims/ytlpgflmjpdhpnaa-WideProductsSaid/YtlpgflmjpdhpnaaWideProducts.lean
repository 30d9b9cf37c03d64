/- The walk of the law WideProducts. -/
import Derived.Test.YtlpgflmjpdhpnaaRows
import Derived.Test.YtlpgflmjpdhpnaaE
import Derived.Test.YtlpgflmjpdhpnaaXa
import Derived.Test.YtlpgflmjpdhpnaaXd
import Derived.Test.YtlpgflmjpdhpnaaXf
import Derived.Test.YtlpgflmjpdhpnaaYc
namespace Go.Proofs.Ytlpgflmjpdhpnaa
open Go.RowKit
set_option maxHeartbeats 4000000
set_option maxRecDepth 100000
set_option linter.unusedVariables false
set_option linter.unusedSimpArgs false
attribute [local irreducible] wv
theorem walk_WideProducts (a b : Nat) (ha : a < W384) (hb : b < W384) (w : World) : Calls Try.prog 3 #[.agg (wv a), .agg (wv b)] w fun e w' => e = .returned (.bool true) ∧ Below w.heap.size w w' := by
  obtain ⟨x, hx⟩ : ∃ x, mulW a b = x := ⟨_, rfl⟩
  obtain ⟨o, ho⟩ : ∃ o, decide (W384 ≤ a * b) = o := ⟨_, rfl⟩
  have lx : x < W384 := by rw [← hx]; exact mulW_lt _ _
  have hm : Try.prog.eqGuardType Try.prog.depth 24 = false := by kernel_rfl
  have q0 : ∀ w, (binOp .eql 24 (.agg (wv x)) (.agg (wv x))).run Try.prog w = .ok (.bool true) w := fun w => by
    have := run_eql_wv Try.underlying24 Try.underlying22 (by kernel_rfl) x x (lx) (lx) w
    rwa [decide_eq_true rfl] at this
  have C0 : Hid (∀ W, Calls Try.prog 14 #[.agg (wv a), .agg (wv b)] W fun e w' => e = .returned (.tuple #[.agg (wv x), .bool o]) ∧ Below W.heap.size W w') := Lib.hid (fun W => by have := wmul_c a b W ha hb; rwa [hx, ho] at this)
  have C1 : Hid (∀ W, Calls Try.prog 15 #[.agg (wv a), .agg (wv b)] W fun e w' => e = .returned (.tuple #[.agg (wv x), .bool o]) ∧ Below W.heap.size W w') := Lib.hid (fun W => by have := rmul2_c a b W ha hb; rwa [hx, ho] at this)
  have C2 : Hid (∀ W, Calls Try.prog 16 #[] W fun e w' => e = .returned (.bool true) ∧ Below W.heap.size W w') := Lib.hid (fun W => alive2_c W)
  clear hx ho lx ha hb
  go_enter Try.func3, Try.ntmps3
  have HS0 := Lib.hid (((St.nil 24 w).boxAt a (w.heap.size) (by simp)).boxAt b (w.heap.size + 1) (by simp))
  have g0 : Blk ((w.alloc (.cells (wv a) 24)).alloc (.cells (wv b) 24)) (w.heap.size + 1) (wv b) 24 := HS0.out.all 0 _ rfl
  have g1 : Blk ((w.alloc (.cells (wv a) 24)).alloc (.cells (wv b) 24)) (w.heap.size) (wv a) 24 := HS0.out.all 1 _ rfl
  go_wp2_with (first
    | (refine wpList_load_wv rfl 24 _ rfl _ rfl 24 _ _ (by with_reducible assumption) Try.underlying24 rfl (by kernel_rfl) ?_)
    | (refine wpList_load_wv_g rfl 24 _ rfl _ rfl 24 _ _ (by with_reducible assumption) Try.underlying24 rfl (by kernel_rfl) ?_)
    | (refine wpList_store_wv rfl 24 _ _ rfl _ _ rfl rfl 24 _ (Blk.zeroAt _ _ rfl) (by kernel_rfl) ?_)
    | (go_at_call 14; (with_reducible refine (C0.out _).mono ?_); rintro e w0 ⟨rfl, b0⟩; clear C0; have HS1 : Hid (St _ 24 w ((w0.alloc (.cells #[.int .u64 0, .int .u64 0, .int .u64 0, .int .u64 0, .int .u64 0, .int .u64 0] 24)).setRow w0.heap.size (wv x))) := Lib.hid (HS0.out.next b0 x _); clear g0 g1 b0 HS0; have g0 : Blk ((w0.alloc (.cells #[.int .u64 0, .int .u64 0, .int .u64 0, .int .u64 0, .int .u64 0, .int .u64 0] 24)).setRow w0.heap.size (wv x)) (w0.heap.size) (wv x) 24 := HS1.out.all 0 _ rfl; have g1 : Blk ((w0.alloc (.cells #[.int .u64 0, .int .u64 0, .int .u64 0, .int .u64 0, .int .u64 0, .int .u64 0] 24)).setRow w0.heap.size (wv x)) (w.heap.size + 1) (wv b) 24 := HS1.out.all 1 _ rfl; have g2 : Blk ((w0.alloc (.cells #[.int .u64 0, .int .u64 0, .int .u64 0, .int .u64 0, .int .u64 0, .int .u64 0] 24)).setRow w0.heap.size (wv x)) (w.heap.size) (wv a) 24 := HS1.out.all 2 _ rfl)
    | (go_at_call 15; (with_reducible refine (C1.out _).mono ?_); rintro e w1 ⟨rfl, b1⟩; clear C1; have HS2 : Hid (St _ 24 w ((w1.alloc (.cells #[.int .u64 0, .int .u64 0, .int .u64 0, .int .u64 0, .int .u64 0, .int .u64 0] 24)).setRow w1.heap.size (wv x))) := Lib.hid (HS1.out.next b1 x _); clear g0 g1 g2 b1 HS1; have g0 : Blk ((w1.alloc (.cells #[.int .u64 0, .int .u64 0, .int .u64 0, .int .u64 0, .int .u64 0, .int .u64 0] 24)).setRow w1.heap.size (wv x)) (w1.heap.size) (wv x) 24 := HS2.out.all 0 _ rfl; have g1 : Blk ((w1.alloc (.cells #[.int .u64 0, .int .u64 0, .int .u64 0, .int .u64 0, .int .u64 0, .int .u64 0] 24)).setRow w1.heap.size (wv x)) (w0.heap.size) (wv x) 24 := HS2.out.all 1 _ rfl; have g2 : Blk ((w1.alloc (.cells #[.int .u64 0, .int .u64 0, .int .u64 0, .int .u64 0, .int .u64 0, .int .u64 0] 24)).setRow w1.heap.size (wv x)) (w.heap.size + 1) (wv b) 24 := HS2.out.all 2 _ rfl; have g3 : Blk ((w1.alloc (.cells #[.int .u64 0, .int .u64 0, .int .u64 0, .int .u64 0, .int .u64 0, .int .u64 0] 24)).setRow w1.heap.size (wv x)) (w.heap.size) (wv a) 24 := HS2.out.all 3 _ rfl)
    | (go_at_call 16; (with_reducible refine (C2.out _).mono ?_); rintro e w2 ⟨rfl, b2⟩; clear C2; have HS3 := Lib.hid (HS2.out.call b2)))
  go_ret
  exact ⟨rfl, HS3.out.le⟩
end Go.Proofs.Ytlpgflmjpdhpnaa
