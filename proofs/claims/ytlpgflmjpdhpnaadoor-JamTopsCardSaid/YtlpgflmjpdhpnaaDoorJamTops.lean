/- The walk of the law JamTops. -/
import Derived.Test.YtlpgflmjpdhpnaaDoorRows
import Derived.Test.YtlpgflmjpdhpnaaDoorG
import Derived.Test.YtlpgflmjpdhpnaaDoorJc
import Derived.Test.YtlpgflmjpdhpnaaDoorJp
import Derived.Test.YtlpgflmjpdhpnaaDoorJt
namespace Go.Proofs.YtlpgflmjpdhpnaaDoor
open Go.RowKit
set_option maxHeartbeats 4000000
set_option maxRecDepth 100000
set_option linter.unusedVariables false
set_option linter.unusedSimpArgs false
set_option exponentiation.threshold 1000
set_option exponentiation.threshold 400
attribute [local irreducible] wv
theorem walk_JamTops0 (a : Nat) (p : Int) (ha : a < W384) (h : topBad a p) (w : World) (hT : Tab w) : Calls Tryd.prog 6 #[.agg (wv (a)), .int .i64 p] w fun e w' => e = .returned (.bool true) ∧ Below w.heap.size w w' := by
  have HTab := Lib.hid hT
  clear hT
  have hm : Tryd.prog.eqGuardType Tryd.prog.depth 24 = false := by kernel_rfl
  have q0 : ∀ w, (binOp .eql 24 (.agg (wv (0))) (.agg (wv (0)))).run Tryd.prog w = .ok (.bool true) w := fun w => by
    have := run_eql_wv Tryd.underlying24 Tryd.underlying22 (by kernel_rfl) (0) (0) (W384_pos) (W384_pos) w
    rwa [decide_eq_true rfl] at this
  have C1 : Hid (∀ W, Tab W → Calls Tryd.prog 19 #[.agg (wv (a)), .int .i64 p] W fun e w' => e = .returned (.tuple #[.agg (wv 0), .int .i64 0, .int .i64 2]) ∧ Below W.heap.size W w') := Lib.hid fun W hT => by
    by_cases h0 : a = 0
    · exact jtop_bad0 a p W ha h0
    · by_cases h1 : p < 0
      · exact jtop_bad1 a p W ha h0 h1
      · exact jtop_bad2 a p W ha h0 h1 (by rcases h with h | h | h <;> first | exact absurd h h0 | exact absurd h h1 | exact h)
  have C2 : Hid (∀ W, Calls Tryd.prog 20 #[.agg (wv (a)), .int .i64 p] W fun e w' => e = .returned (.tuple #[.agg (wv 0), .int .i64 0, .int .i64 2]) ∧ Below W.heap.size W w') := Lib.hid fun W => by
    by_cases h0 : a = 0
    · exact rtop4_bad0 a p W ha h0
    · by_cases h1 : p < 0
      · exact rtop4_bad1 a p W ha h0 h1
      · exact rtop4_bad2 a p W ha h0 h1 (by rcases h with h | h | h <;> first | exact absurd h h0 | exact absurd h h1 | exact h)
  have CA : Hid (∀ W, Tab W → Calls Tryd.prog 14 #[] W fun e w' => e = .returned (.bool true) ∧ Below W.heap.size W w') := Lib.hid fun W hT => alive4_c W hT
  clear h ha
  go_enter Tryd.func6, Tryd.ntmps6
  have HS0 := Lib.hid ((Ds.nil w).box (wv (a)) 24 (w.heap.size) rfl)
  have g1_0 : Blk (w.alloc (.cells (wv (a)) 24)) (w.heap.size) (wv (a)) 24 := HS0.out.all 0 _ rfl
  have tb1 : Tab (w.alloc (.cells (wv (a)) 24)) := HTab.out.below0 HS0.out.le
  go_wp2_with (first
    | (refine wpList_load_wv rfl 24 _ rfl _ rfl 24 _ _ (by with_reducible assumption) Tryd.underlying24 rfl (by kernel_rfl) ?_)
    | (refine wpList_load_wv_g rfl 24 _ rfl _ rfl 24 _ _ (by with_reducible assumption) Tryd.underlying24 rfl (by kernel_rfl) ?_)
    | (go_at_call 19; (with_reducible refine (C1.out _ (by with_reducible assumption)).mono ?_); rintro e wc26 ⟨rfl, bc26⟩; clear C1; have H127 : Hid (Ds [(w.heap.size, wv (a), 24)] w wc26) := Lib.hid (HS0.out.call bc26); clear g1_0 tb1 bc26 HS0; have g2_0 : Blk wc26 (w.heap.size) (wv (a)) 24 := H127.out.all 0 _ rfl; have tb2 : Tab wc26 := HTab.out.below0 H127.out.le)
    | (refine wpList_store_wv rfl 24 _ _ rfl (wc26.heap.size) (0) rfl rfl 24 0 (Blk.zeroAt _ _ rfl) (by kernel_rfl) ?_; have H128 : Hid (Ds [(wc26.heap.size, wv (0), 24), (w.heap.size, wv (a), 24)] w ((wc26.alloc (.cells #[.int .u64 0, .int .u64 0, .int .u64 0, .int .u64 0, .int .u64 0, .int .u64 0] 24)).setRow wc26.heap.size (wv (0)))) := Lib.hid ((H127.out.box #[.int .u64 0, .int .u64 0, .int .u64 0, .int .u64 0, .int .u64 0, .int .u64 0] 24 _ rfl).setRow 0 (wv (0)) _ _ _ rfl); clear g2_0 tb2 H127; have g3_0 : Blk ((wc26.alloc (.cells #[.int .u64 0, .int .u64 0, .int .u64 0, .int .u64 0, .int .u64 0, .int .u64 0] 24)).setRow wc26.heap.size (wv (0))) (wc26.heap.size) (wv (0)) 24 := H128.out.all 0 _ rfl; have g3_1 : Blk ((wc26.alloc (.cells #[.int .u64 0, .int .u64 0, .int .u64 0, .int .u64 0, .int .u64 0, .int .u64 0] 24)).setRow wc26.heap.size (wv (0))) (w.heap.size) (wv (a)) 24 := H128.out.all 1 _ rfl; have tb3 : Tab ((wc26.alloc (.cells #[.int .u64 0, .int .u64 0, .int .u64 0, .int .u64 0, .int .u64 0, .int .u64 0] 24)).setRow wc26.heap.size (wv (0))) := HTab.out.below0 H128.out.le)
    | (go_at_call 20; (with_reducible refine (C2.out _).mono ?_); rintro e wc29 ⟨rfl, bc29⟩; clear C2; have H130 : Hid (Ds [(wc26.heap.size, wv (0), 24), (w.heap.size, wv (a), 24)] w wc29) := Lib.hid (H128.out.call bc29); clear g3_0 g3_1 tb3 bc29 H128; have g4_0 : Blk wc29 (wc26.heap.size) (wv (0)) 24 := H130.out.all 0 _ rfl; have g4_1 : Blk wc29 (w.heap.size) (wv (a)) 24 := H130.out.all 1 _ rfl; have tb4 : Tab wc29 := HTab.out.below0 H130.out.le)
    | (refine wpList_store_wv rfl 24 _ _ rfl (wc29.heap.size) (0) rfl rfl 24 0 (Blk.zeroAt _ _ rfl) (by kernel_rfl) ?_; have H131 : Hid (Ds [(wc29.heap.size, wv (0), 24), (wc26.heap.size, wv (0), 24), (w.heap.size, wv (a), 24)] w ((wc29.alloc (.cells #[.int .u64 0, .int .u64 0, .int .u64 0, .int .u64 0, .int .u64 0, .int .u64 0] 24)).setRow wc29.heap.size (wv (0)))) := Lib.hid ((H130.out.box #[.int .u64 0, .int .u64 0, .int .u64 0, .int .u64 0, .int .u64 0, .int .u64 0] 24 _ rfl).setRow 0 (wv (0)) _ _ _ rfl); clear g4_0 g4_1 tb4 H130; have g5_0 : Blk ((wc29.alloc (.cells #[.int .u64 0, .int .u64 0, .int .u64 0, .int .u64 0, .int .u64 0, .int .u64 0] 24)).setRow wc29.heap.size (wv (0))) (wc29.heap.size) (wv (0)) 24 := H131.out.all 0 _ rfl; have g5_1 : Blk ((wc29.alloc (.cells #[.int .u64 0, .int .u64 0, .int .u64 0, .int .u64 0, .int .u64 0, .int .u64 0] 24)).setRow wc29.heap.size (wv (0))) (wc26.heap.size) (wv (0)) 24 := H131.out.all 1 _ rfl; have g5_2 : Blk ((wc29.alloc (.cells #[.int .u64 0, .int .u64 0, .int .u64 0, .int .u64 0, .int .u64 0, .int .u64 0] 24)).setRow wc29.heap.size (wv (0))) (w.heap.size) (wv (a)) 24 := H131.out.all 2 _ rfl; have tb5 : Tab ((wc29.alloc (.cells #[.int .u64 0, .int .u64 0, .int .u64 0, .int .u64 0, .int .u64 0, .int .u64 0] 24)).setRow wc29.heap.size (wv (0))) := HTab.out.below0 H131.out.le)
    | (go_at_call 14; (with_reducible refine (CA.out _ (by with_reducible assumption)).mono ?_); rintro e wc32 ⟨rfl, bc32⟩; clear CA; have H133 : Hid (Ds [(wc29.heap.size, wv (0), 24), (wc26.heap.size, wv (0), 24), (w.heap.size, wv (a), 24)] w wc32) := Lib.hid (H131.out.call bc32); clear g5_0 g5_1 g5_2 tb5 bc32 H131; have g6_0 : Blk wc32 (wc29.heap.size) (wv (0)) 24 := H133.out.all 0 _ rfl; have g6_1 : Blk wc32 (wc26.heap.size) (wv (0)) 24 := H133.out.all 1 _ rfl; have g6_2 : Blk wc32 (w.heap.size) (wv (a)) 24 := H133.out.all 2 _ rfl; have tb6 : Tab wc32 := HTab.out.below0 H133.out.le))
  go_ret
  exact ⟨rfl, H133.out.le⟩
theorem walk_JamTops1 (a p : Nat) (ha : a < W384) (h0 : ¬ a = 0) (hp : p ≤ 383) (w : World) (hT : Tab w) : Calls Tryd.prog 6 #[.agg (wv (a)), .int .i64 (p : Nat)] w fun e w' => e = .returned (.bool true) ∧ Below w.heap.size w w' := by
  have HTab := Lib.hid hT
  clear hT
  obtain ⟨x, hx⟩ : ∃ x, topB a p = x := ⟨_, rfl⟩
  obtain ⟨f, hf⟩ : ∃ f : Int, (p : Nat) + 1 - (lenW a : Nat) = f := ⟨_, rfl⟩
  have lx : x < W384 := by
    rw [← hx]; unfold topB
    split
    · exact jamR_lt ha
    · exact leftW_lt _ _
  have hm : Tryd.prog.eqGuardType Tryd.prog.depth 24 = false := by kernel_rfl
  have q0 : ∀ w, (binOp .eql 24 (.agg (wv (x))) (.agg (wv (x)))).run Tryd.prog w = .ok (.bool true) w := fun w => by
    have := run_eql_wv Tryd.underlying24 Tryd.underlying22 (by kernel_rfl) (x) (x) (lx) (lx) w
    rwa [decide_eq_true rfl] at this
  have C1 : Hid (∀ W, Tab W → Calls Tryd.prog 19 #[.agg (wv (a)), .int .i64 (p : Nat)] W fun e w' => e = .returned (.tuple #[.agg (wv x), .int .i64 f, .int .i64 0]) ∧ Below W.heap.size W w') := Lib.hid fun W hT => by
    rw [← hx, ← hf]
    by_cases hk : p + 1 < lenW a
    · exact jtop_down a p W ha h0 hp hk hT
    · exact jtop_up a p W ha h0 hp hk hT
  have C2 : Hid (∀ W, Calls Tryd.prog 20 #[.agg (wv (a)), .int .i64 (p : Nat)] W fun e w' => e = .returned (.tuple #[.agg (wv x), .int .i64 f, .int .i64 0]) ∧ Below W.heap.size W w') := Lib.hid fun W => by
    rw [← hx, ← hf]
    by_cases hk : p + 1 < lenW a
    · exact rtop4_down a p W ha h0 hp hk
    · exact rtop4_up a p W ha h0 hp hk
  have CA : Hid (∀ W, Tab W → Calls Tryd.prog 14 #[] W fun e w' => e = .returned (.bool true) ∧ Below W.heap.size W w') := Lib.hid fun W hT => alive4_c W hT
  clear hx hf lx h0 hp ha
  go_enter Tryd.func6, Tryd.ntmps6
  have HS0 := Lib.hid ((Ds.nil w).box (wv (a)) 24 (w.heap.size) rfl)
  have g1_0 : Blk (w.alloc (.cells (wv (a)) 24)) (w.heap.size) (wv (a)) 24 := HS0.out.all 0 _ rfl
  have tb1 : Tab (w.alloc (.cells (wv (a)) 24)) := HTab.out.below0 HS0.out.le
  go_wp2_with (first
    | (refine wpList_load_wv rfl 24 _ rfl _ rfl 24 _ _ (by with_reducible assumption) Tryd.underlying24 rfl (by kernel_rfl) ?_)
    | (refine wpList_load_wv_g rfl 24 _ rfl _ rfl 24 _ _ (by with_reducible assumption) Tryd.underlying24 rfl (by kernel_rfl) ?_)
    | (go_at_call 19; (with_reducible refine (C1.out _ (by with_reducible assumption)).mono ?_); rintro e wc34 ⟨rfl, bc34⟩; clear C1; have H135 : Hid (Ds [(w.heap.size, wv (a), 24)] w wc34) := Lib.hid (HS0.out.call bc34); clear g1_0 tb1 bc34 HS0; have g2_0 : Blk wc34 (w.heap.size) (wv (a)) 24 := H135.out.all 0 _ rfl; have tb2 : Tab wc34 := HTab.out.below0 H135.out.le)
    | (refine wpList_store_wv rfl 24 _ _ rfl (wc34.heap.size) (x) rfl rfl 24 0 (Blk.zeroAt _ _ rfl) (by kernel_rfl) ?_; have H136 : Hid (Ds [(wc34.heap.size, wv (x), 24), (w.heap.size, wv (a), 24)] w ((wc34.alloc (.cells #[.int .u64 0, .int .u64 0, .int .u64 0, .int .u64 0, .int .u64 0, .int .u64 0] 24)).setRow wc34.heap.size (wv (x)))) := Lib.hid ((H135.out.box #[.int .u64 0, .int .u64 0, .int .u64 0, .int .u64 0, .int .u64 0, .int .u64 0] 24 _ rfl).setRow 0 (wv (x)) _ _ _ rfl); clear g2_0 tb2 H135; have g3_0 : Blk ((wc34.alloc (.cells #[.int .u64 0, .int .u64 0, .int .u64 0, .int .u64 0, .int .u64 0, .int .u64 0] 24)).setRow wc34.heap.size (wv (x))) (wc34.heap.size) (wv (x)) 24 := H136.out.all 0 _ rfl; have g3_1 : Blk ((wc34.alloc (.cells #[.int .u64 0, .int .u64 0, .int .u64 0, .int .u64 0, .int .u64 0, .int .u64 0] 24)).setRow wc34.heap.size (wv (x))) (w.heap.size) (wv (a)) 24 := H136.out.all 1 _ rfl; have tb3 : Tab ((wc34.alloc (.cells #[.int .u64 0, .int .u64 0, .int .u64 0, .int .u64 0, .int .u64 0, .int .u64 0] 24)).setRow wc34.heap.size (wv (x))) := HTab.out.below0 H136.out.le)
    | (go_at_call 20; (with_reducible refine (C2.out _).mono ?_); rintro e wc37 ⟨rfl, bc37⟩; clear C2; have H138 : Hid (Ds [(wc34.heap.size, wv (x), 24), (w.heap.size, wv (a), 24)] w wc37) := Lib.hid (H136.out.call bc37); clear g3_0 g3_1 tb3 bc37 H136; have g4_0 : Blk wc37 (wc34.heap.size) (wv (x)) 24 := H138.out.all 0 _ rfl; have g4_1 : Blk wc37 (w.heap.size) (wv (a)) 24 := H138.out.all 1 _ rfl; have tb4 : Tab wc37 := HTab.out.below0 H138.out.le)
    | (refine wpList_store_wv rfl 24 _ _ rfl (wc37.heap.size) (x) rfl rfl 24 0 (Blk.zeroAt _ _ rfl) (by kernel_rfl) ?_; have H139 : Hid (Ds [(wc37.heap.size, wv (x), 24), (wc34.heap.size, wv (x), 24), (w.heap.size, wv (a), 24)] w ((wc37.alloc (.cells #[.int .u64 0, .int .u64 0, .int .u64 0, .int .u64 0, .int .u64 0, .int .u64 0] 24)).setRow wc37.heap.size (wv (x)))) := Lib.hid ((H138.out.box #[.int .u64 0, .int .u64 0, .int .u64 0, .int .u64 0, .int .u64 0, .int .u64 0] 24 _ rfl).setRow 0 (wv (x)) _ _ _ rfl); clear g4_0 g4_1 tb4 H138; have g5_0 : Blk ((wc37.alloc (.cells #[.int .u64 0, .int .u64 0, .int .u64 0, .int .u64 0, .int .u64 0, .int .u64 0] 24)).setRow wc37.heap.size (wv (x))) (wc37.heap.size) (wv (x)) 24 := H139.out.all 0 _ rfl; have g5_1 : Blk ((wc37.alloc (.cells #[.int .u64 0, .int .u64 0, .int .u64 0, .int .u64 0, .int .u64 0, .int .u64 0] 24)).setRow wc37.heap.size (wv (x))) (wc34.heap.size) (wv (x)) 24 := H139.out.all 1 _ rfl; have g5_2 : Blk ((wc37.alloc (.cells #[.int .u64 0, .int .u64 0, .int .u64 0, .int .u64 0, .int .u64 0, .int .u64 0] 24)).setRow wc37.heap.size (wv (x))) (w.heap.size) (wv (a)) 24 := H139.out.all 2 _ rfl; have tb5 : Tab ((wc37.alloc (.cells #[.int .u64 0, .int .u64 0, .int .u64 0, .int .u64 0, .int .u64 0, .int .u64 0] 24)).setRow wc37.heap.size (wv (x))) := HTab.out.below0 H139.out.le)
    | (go_at_call 14; (with_reducible refine (CA.out _ (by with_reducible assumption)).mono ?_); rintro e wc40 ⟨rfl, bc40⟩; clear CA; have H141 : Hid (Ds [(wc37.heap.size, wv (x), 24), (wc34.heap.size, wv (x), 24), (w.heap.size, wv (a), 24)] w wc40) := Lib.hid (H139.out.call bc40); clear g5_0 g5_1 g5_2 tb5 bc40 H139; have g6_0 : Blk wc40 (wc37.heap.size) (wv (x)) 24 := H141.out.all 0 _ rfl; have g6_1 : Blk wc40 (wc34.heap.size) (wv (x)) 24 := H141.out.all 1 _ rfl; have g6_2 : Blk wc40 (w.heap.size) (wv (a)) 24 := H141.out.all 2 _ rfl; have tb6 : Tab wc40 := HTab.out.below0 H141.out.le))
  go_ret
  exact ⟨rfl, H141.out.le⟩
theorem walk_JamTops (a : Nat) (p : Int) (ha : a < W384) (w : World) (hT : Tab w) : Calls Tryd.prog 6 #[.agg (wv (a)), .int .i64 p] w fun e w' => e = .returned (.bool true) ∧ Below w.heap.size w w' := by
  by_cases h : topBad a p
  · exact walk_JamTops0 a p ha h w hT
  · obtain ⟨k, rfl⟩ : ∃ k : Nat, p = (k : Int) := ⟨p.toNat, by unfold topBad at h; omega⟩
    exact walk_JamTops1 a k ha (fun h0 => h (Or.inl h0)) (by unfold topBad at h; omega) w hT
end Go.Proofs.YtlpgflmjpdhpnaaDoor
