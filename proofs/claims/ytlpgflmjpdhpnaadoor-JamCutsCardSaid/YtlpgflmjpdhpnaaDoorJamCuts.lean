/- The walk of the law JamCuts. -/
import Derived.Test.YtlpgflmjpdhpnaaDoorRows
import Derived.Test.YtlpgflmjpdhpnaaDoorG
import Derived.Test.YtlpgflmjpdhpnaaDoorJc
import Derived.Test.YtlpgflmjpdhpnaaDoorJe
namespace Go.Proofs.YtlpgflmjpdhpnaaDoor
open Go.RowKit
set_option maxHeartbeats 4000000
set_option maxRecDepth 100000
set_option linter.unusedVariables false
set_option linter.unusedSimpArgs false
set_option exponentiation.threshold 1000
set_option exponentiation.threshold 400
attribute [local irreducible] wv
theorem walk_JamCuts (a : Nat) (n : Int) (ha : a < W384) (w : World) (hT : Tab w) : Calls Tryd.prog 3 #[.agg (wv (a)), .int .i64 n] w fun e w' => e = .returned (.bool true) ∧ Below w.heap.size w w' := by
  have HTab := Lib.hid hT
  clear hT
  obtain ⟨c, hc⟩ : ∃ c, clamp n 385 = c := ⟨_, rfl⟩
  obtain ⟨x, hx⟩ : ∃ x, a / 2 ^ c = x := ⟨_, rfl⟩
  obtain ⟨f, hf⟩ : ∃ f, cutH a c = f := ⟨_, rfl⟩
  obtain ⟨z, hz⟩ : ∃ z, decide (a % 2 ^ c = 0) = z := ⟨_, rfl⟩
  have lx : x < W384 := by rw [← hx]; exact Nat.lt_of_le_of_lt (Nat.div_le_self _ _) ha
  have hm : Tryd.prog.eqGuardType Tryd.prog.depth 24 = false := by kernel_rfl
  have q0 : ∀ w, (binOp .eql 24 (.agg (wv (x))) (.agg (wv (x)))).run Tryd.prog w = .ok (.bool true) w := fun w => by
    have := run_eql_wv Tryd.underlying24 Tryd.underlying22 (by kernel_rfl) (x) (x) (lx) (lx) w
    rwa [decide_eq_true rfl] at this
  have C1 : Hid (∀ W, Tab W → Calls Tryd.prog 12 #[.agg (wv (a)), .int .i64 n] W fun e w' => e = .returned (.tuple #[.agg (wv x), .int .i64 f, .bool z]) ∧ Below W.heap.size W w') := Lib.hid fun W hT => by have := jcut_c a n W ha hT; rwa [hc, hx, hf, hz] at this
  have C2 : Hid (∀ W, Calls Tryd.prog 13 #[.agg (wv (a)), .int .i64 n] W fun e w' => e = .returned (.tuple #[.agg (wv x), .int .i64 f, .bool z]) ∧ Below W.heap.size W w') := Lib.hid fun W => by have := rcut4_c a n W ha; rwa [hc, hx, hf, hz] at this
  have CA : Hid (∀ W, Tab W → Calls Tryd.prog 14 #[] W fun e w' => e = .returned (.bool true) ∧ Below W.heap.size W w') := Lib.hid fun W hT => alive4_c W hT
  clear hc hx hf hz lx ha
  go_enter Tryd.func3, Tryd.ntmps3
  have HS0 := Lib.hid ((Ds.nil w).box (wv (a)) 24 (w.heap.size) rfl)
  have g1_0 : Blk (w.alloc (.cells (wv (a)) 24)) (w.heap.size) (wv (a)) 24 := HS0.out.all 0 _ rfl
  have tb1 : Tab (w.alloc (.cells (wv (a)) 24)) := HTab.out.below0 HS0.out.le
  go_wp2_with (first
    | (refine wpList_load_wv rfl 24 _ rfl _ rfl 24 _ _ (by with_reducible assumption) Tryd.underlying24 rfl (by kernel_rfl) ?_)
    | (refine wpList_load_wv_g rfl 24 _ rfl _ rfl 24 _ _ (by with_reducible assumption) Tryd.underlying24 rfl (by kernel_rfl) ?_)
    | (go_at_call 12; (with_reducible refine (C1.out _ (by with_reducible assumption)).mono ?_); rintro e wc147 ⟨rfl, bc147⟩; clear C1; have H248 : Hid (Ds [(w.heap.size, wv (a), 24)] w wc147) := Lib.hid (HS0.out.call bc147); clear g1_0 tb1 bc147 HS0; have g2_0 : Blk wc147 (w.heap.size) (wv (a)) 24 := H248.out.all 0 _ rfl; have tb2 : Tab wc147 := HTab.out.below0 H248.out.le)
    | (refine wpList_store_wv rfl 24 _ _ rfl (wc147.heap.size) (x) rfl rfl 24 0 (Blk.zeroAt _ _ rfl) (by kernel_rfl) ?_; have H249 : Hid (Ds [(wc147.heap.size, wv (x), 24), (w.heap.size, wv (a), 24)] w ((wc147.alloc (.cells #[.int .u64 0, .int .u64 0, .int .u64 0, .int .u64 0, .int .u64 0, .int .u64 0] 24)).setRow wc147.heap.size (wv (x)))) := Lib.hid ((H248.out.box #[.int .u64 0, .int .u64 0, .int .u64 0, .int .u64 0, .int .u64 0, .int .u64 0] 24 _ rfl).setRow 0 (wv (x)) _ _ _ rfl); clear g2_0 tb2 H248; have g3_0 : Blk ((wc147.alloc (.cells #[.int .u64 0, .int .u64 0, .int .u64 0, .int .u64 0, .int .u64 0, .int .u64 0] 24)).setRow wc147.heap.size (wv (x))) (wc147.heap.size) (wv (x)) 24 := H249.out.all 0 _ rfl; have g3_1 : Blk ((wc147.alloc (.cells #[.int .u64 0, .int .u64 0, .int .u64 0, .int .u64 0, .int .u64 0, .int .u64 0] 24)).setRow wc147.heap.size (wv (x))) (w.heap.size) (wv (a)) 24 := H249.out.all 1 _ rfl; have tb3 : Tab ((wc147.alloc (.cells #[.int .u64 0, .int .u64 0, .int .u64 0, .int .u64 0, .int .u64 0, .int .u64 0] 24)).setRow wc147.heap.size (wv (x))) := HTab.out.below0 H249.out.le)
    | (go_at_call 13; (with_reducible refine (C2.out _).mono ?_); rintro e wc150 ⟨rfl, bc150⟩; clear C2; have H251 : Hid (Ds [(wc147.heap.size, wv (x), 24), (w.heap.size, wv (a), 24)] w wc150) := Lib.hid (H249.out.call bc150); clear g3_0 g3_1 tb3 bc150 H249; have g4_0 : Blk wc150 (wc147.heap.size) (wv (x)) 24 := H251.out.all 0 _ rfl; have g4_1 : Blk wc150 (w.heap.size) (wv (a)) 24 := H251.out.all 1 _ rfl; have tb4 : Tab wc150 := HTab.out.below0 H251.out.le)
    | (refine wpList_store_wv rfl 24 _ _ rfl (wc150.heap.size) (x) rfl rfl 24 0 (Blk.zeroAt _ _ rfl) (by kernel_rfl) ?_; have H252 : Hid (Ds [(wc150.heap.size, wv (x), 24), (wc147.heap.size, wv (x), 24), (w.heap.size, wv (a), 24)] w ((wc150.alloc (.cells #[.int .u64 0, .int .u64 0, .int .u64 0, .int .u64 0, .int .u64 0, .int .u64 0] 24)).setRow wc150.heap.size (wv (x)))) := Lib.hid ((H251.out.box #[.int .u64 0, .int .u64 0, .int .u64 0, .int .u64 0, .int .u64 0, .int .u64 0] 24 _ rfl).setRow 0 (wv (x)) _ _ _ rfl); clear g4_0 g4_1 tb4 H251; have g5_0 : Blk ((wc150.alloc (.cells #[.int .u64 0, .int .u64 0, .int .u64 0, .int .u64 0, .int .u64 0, .int .u64 0] 24)).setRow wc150.heap.size (wv (x))) (wc150.heap.size) (wv (x)) 24 := H252.out.all 0 _ rfl; have g5_1 : Blk ((wc150.alloc (.cells #[.int .u64 0, .int .u64 0, .int .u64 0, .int .u64 0, .int .u64 0, .int .u64 0] 24)).setRow wc150.heap.size (wv (x))) (wc147.heap.size) (wv (x)) 24 := H252.out.all 1 _ rfl; have g5_2 : Blk ((wc150.alloc (.cells #[.int .u64 0, .int .u64 0, .int .u64 0, .int .u64 0, .int .u64 0, .int .u64 0] 24)).setRow wc150.heap.size (wv (x))) (w.heap.size) (wv (a)) 24 := H252.out.all 2 _ rfl; have tb5 : Tab ((wc150.alloc (.cells #[.int .u64 0, .int .u64 0, .int .u64 0, .int .u64 0, .int .u64 0, .int .u64 0] 24)).setRow wc150.heap.size (wv (x))) := HTab.out.below0 H252.out.le)
    | (go_at_call 14; (with_reducible refine (CA.out _ (by with_reducible assumption)).mono ?_); rintro e wc153 ⟨rfl, bc153⟩; clear CA; have H254 : Hid (Ds [(wc150.heap.size, wv (x), 24), (wc147.heap.size, wv (x), 24), (w.heap.size, wv (a), 24)] w wc153) := Lib.hid (H252.out.call bc153); clear g5_0 g5_1 g5_2 tb5 bc153 H252; have g6_0 : Blk wc153 (wc150.heap.size) (wv (x)) 24 := H254.out.all 0 _ rfl; have g6_1 : Blk wc153 (wc147.heap.size) (wv (x)) 24 := H254.out.all 1 _ rfl; have g6_2 : Blk wc153 (w.heap.size) (wv (a)) 24 := H254.out.all 2 _ rfl; have tb6 : Tab wc153 := HTab.out.below0 H254.out.le))
  go_ret
  exact ⟨rfl, H254.out.le⟩
end Go.Proofs.YtlpgflmjpdhpnaaDoor
