/- The contract of abacuslaw04.alive. -/
import Derived.Test.YtlpgflmjpdhpnaaDoorRows
import Derived.Test.YtlpgflmjpdhpnaaDoorG
import Derived.Test.YtlpgflmjpdhpnaaDoorJa
import Derived.Test.YtlpgflmjpdhpnaaDoorJb
namespace Go.Proofs.YtlpgflmjpdhpnaaDoor
open Go.RowKit
set_option maxHeartbeats 4000000
set_option maxRecDepth 100000
set_option linter.unusedVariables false
set_option linter.unusedSimpArgs false
set_option exponentiation.threshold 1000
set_option exponentiation.threshold 400
theorem wv_lit1 : wv 1 = #[.int .u64 1, .int .u64 0, .int .u64 0, .int .u64 0, .int .u64 0, .int .u64 0] := by kernel_rfl
theorem wv_lit3 : wv 3 = #[.int .u64 3, .int .u64 0, .int .u64 0, .int .u64 0, .int .u64 0, .int .u64 0] := by kernel_rfl
theorem wv_lit6 : wv 6 = #[.int .u64 6, .int .u64 0, .int .u64 0, .int .u64 0, .int .u64 0, .int .u64 0] := by kernel_rfl
theorem wv_lit9 : wv 9 = #[.int .u64 9, .int .u64 0, .int .u64 0, .int .u64 0, .int .u64 0, .int .u64 0] := by kernel_rfl
theorem small384 {x : Nat} (h : x < 1000) : x < W384 := by
  have : (2 : Nat) ^ 10 ≤ W384 := by rw [W384_two]; exact Nat.pow_le_pow_right (by decide) (by decide)
  omega
attribute [local irreducible] wv
theorem alive4_c (w : World) (hT : Tab w) : Calls Tryd.prog 14 #[] w fun e w' => e = .returned (.bool true) ∧ Below w.heap.size w w' := by
  have HTab := Lib.hid hT
  clear hT
  have hm : Tryd.prog.eqGuardType Tryd.prog.depth 24 = false := by kernel_rfl
  have q0 : ∀ w, (binOp .eql 24 (.agg (wv 3)) (.agg #[.int .u64 3, .int .u64 0, .int .u64 0, .int .u64 0, .int .u64 0, .int .u64 0])).run Tryd.prog w = .ok (.bool true) w := fun w => by
    rw [← wv_lit3]
    have := run_eql_wv Tryd.underlying24 Tryd.underlying22 (by kernel_rfl) 3 3 (small384 (by decide)) (small384 (by decide)) w
    rwa [decide_eq_true rfl] at this
  have q1 : ∀ w, (binOp .eql 24 (.agg (wv 1)) (.agg #[.int .u64 1, .int .u64 0, .int .u64 0, .int .u64 0, .int .u64 0, .int .u64 0])).run Tryd.prog w = .ok (.bool true) w := fun w => by
    rw [← wv_lit1]
    have := run_eql_wv Tryd.underlying24 Tryd.underlying22 (by kernel_rfl) 1 1 (small384 (by decide)) (small384 (by decide)) w
    rwa [decide_eq_true rfl] at this
  have C1 : Hid (∀ W, Tab W → Calls Tryd.prog 12 #[.agg #[.int .u64 6, .int .u64 0, .int .u64 0, .int .u64 0, .int .u64 0, .int .u64 0], .int .i64 2] W fun e w' => e = .returned (.tuple #[.agg (wv 1), .int .i64 0, .bool false]) ∧ Below W.heap.size W w') := Lib.hid fun W hT => by
    rw [← wv_lit6]
    have := jcut_c 6 2 W (small384 (by decide)) hT
    rwa [show clamp 2 385 = 2 by decide, show cutH 6 2 = 0 by decide, show decide (6 % 2 ^ 2 = 0) = false by decide, show 6 / 2 ^ 2 = 1 by decide] at this
  have C2 : Hid (∀ W, Tab W → Calls Tryd.prog 15 #[.agg #[.int .u64 9, .int .u64 0, .int .u64 0, .int .u64 0, .int .u64 0, .int .u64 0], .int .i64 2] W fun e w' => e = .returned (.agg (wv 3)) ∧ Below W.heap.size W w') := Lib.hid fun W hT => by
    rw [← wv_lit9]
    have := jright_c 9 2 W (small384 (by decide)) hT
    rwa [show clamp 2 384 = 2 by decide, show jamR 9 2 = 3 by decide] at this
  go_enter Tryd.func14, Tryd.ntmps14
  have HS0 := Lib.hid (Ds.nil w)
  have tb1 : Tab w := HTab.out.below0 HS0.out.le
  go_wp2_with (first
    | (refine wpList_load_wv rfl 24 _ rfl _ rfl 24 _ _ (by with_reducible assumption) Tryd.underlying24 rfl (by kernel_rfl) ?_)
    | (refine wpList_load_wv_g rfl 24 _ rfl _ rfl 24 _ _ (by with_reducible assumption) Tryd.underlying24 rfl (by kernel_rfl) ?_)
    | (go_at_call 12; (with_reducible refine (C1.out _ (by with_reducible assumption)).mono ?_); rintro e wc15 ⟨rfl, bc15⟩; clear C1; have H116 : Hid (Ds [] w wc15) := Lib.hid (HS0.out.call bc15); clear tb1 bc15 HS0; have tb2 : Tab wc15 := HTab.out.below0 H116.out.le)
    | (refine wpList_store_wv rfl 24 _ _ rfl (wc15.heap.size) (1) rfl rfl 24 0 (Blk.zeroAt _ _ rfl) (by kernel_rfl) ?_; have H117 : Hid (Ds [(wc15.heap.size, wv (1), 24)] w ((wc15.alloc (.cells #[.int .u64 0, .int .u64 0, .int .u64 0, .int .u64 0, .int .u64 0, .int .u64 0] 24)).setRow wc15.heap.size (wv (1)))) := Lib.hid ((H116.out.box #[.int .u64 0, .int .u64 0, .int .u64 0, .int .u64 0, .int .u64 0, .int .u64 0] 24 _ rfl).setRow 0 (wv (1)) _ _ _ rfl); clear tb2 H116; have g3_0 : Blk ((wc15.alloc (.cells #[.int .u64 0, .int .u64 0, .int .u64 0, .int .u64 0, .int .u64 0, .int .u64 0] 24)).setRow wc15.heap.size (wv (1))) (wc15.heap.size) (wv (1)) 24 := H117.out.all 0 _ rfl; have tb3 : Tab ((wc15.alloc (.cells #[.int .u64 0, .int .u64 0, .int .u64 0, .int .u64 0, .int .u64 0, .int .u64 0] 24)).setRow wc15.heap.size (wv (1))) := HTab.out.below0 H117.out.le)
    | (go_at_call 15; (with_reducible refine (C2.out _ (by with_reducible assumption)).mono ?_); rintro e wc18 ⟨rfl, bc18⟩; clear C2; have H119 : Hid (Ds [(wc15.heap.size, wv (1), 24)] w wc18) := Lib.hid (H117.out.call bc18); clear g3_0 tb3 bc18 H117; have g4_0 : Blk wc18 (wc15.heap.size) (wv (1)) 24 := H119.out.all 0 _ rfl; have tb4 : Tab wc18 := HTab.out.below0 H119.out.le))
  go_ret
  exact ⟨rfl, H119.out.le⟩
end Go.Proofs.YtlpgflmjpdhpnaaDoor
