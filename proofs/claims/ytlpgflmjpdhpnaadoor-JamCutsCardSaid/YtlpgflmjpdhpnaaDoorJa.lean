/- Contracts of jam.Right, jam.Align, abacusref04.Right, abacusref04.Align. -/
import Derived.Test.YtlpgflmjpdhpnaaDoorRows
import Derived.Test.YtlpgflmjpdhpnaaDoorG
import Derived.Test.YtlpgflmjpdhpnaaDoorB
import Derived.Test.YtlpgflmjpdhpnaaDoorTr
import Derived.Test.YtlpgflmjpdhpnaaDoorTs
namespace Go.Proofs.YtlpgflmjpdhpnaaDoor
open Go.RowKit
set_option maxHeartbeats 4000000
set_option maxRecDepth 100000
set_option linter.unusedVariables false
set_option linter.unusedSimpArgs false
set_option exponentiation.threshold 1000
/-- a shift to the right that keeps what was lost -/
def jamR (A c : Nat) : Nat := if A % 2 ^ c = 0 then A / 2 ^ c else A / 2 ^ c ||| 1
theorem or1_cell {T y : Nat} (hy : limb (T ||| 1) 0 = y) : bits .or .u64 ((limb T 0 : Nat) : Int) 1 = (y : Int) := by
  have := or_nat (limb T 0) 1 (limb_lt _ _) (by decide)
  rw [← hy, limb_or, limb_word (d := 1) (by decide), if_pos rfl]
  exact this
theorem or1_row {T y : Nat} (hy : limb (T ||| 1) 0 = y) : (wv T).setIfInBounds 0 (.int .u64 (y : Nat)) = wv (T ||| 1) := by
  unfold wv
  rw [cellsN_set]
  refine cellsN_congr fun i _ => ?_
  unfold upd
  by_cases hi : i = 0
  · rw [if_pos hi, hi, hy]
  · rw [if_neg hi, limb_or, limb_word (d := 1) (by decide), if_neg hi, Nat.or_zero]
theorem jright_c (A : Nat) (n : Int) (w : World) (hA : A < W384) (hT : Tab w) : Calls Tryd.prog 15 #[.agg (wv (A)), .int .i64 n] w fun e w' => e = .returned (.agg (wv (jamR A (clamp n 384)))) ∧ Below w.heap.size w w' := by
  have HTab := Lib.hid hT
  clear hT
  obtain ⟨c, hc⟩ : ∃ c, clamp n 384 = c := ⟨_, rfl⟩
  rw [hc]
  by_cases h0 : A % 2 ^ c = 0
  · have e : jamR A c = A / 2 ^ c := if_pos h0
    rw [e]
    obtain ⟨x, hx⟩ : ∃ x, A / 2 ^ c = x := ⟨_, rfl⟩
    rw [hx]
    have C1 : Hid (∀ W, Tab W → Calls Tryd.prog 22 #[.agg (wv (A)), .int .i64 n] W fun e w' => e = .returned (.tuple #[.agg (wv x), .bool false]) ∧ Below W.heap.size W w') := Lib.hid fun W hT => by have := wright_c A n W hA hT; rwa [hc, hx, decide_eq_false (fun h => h h0)] at this
    clear hc h0 e hx hA
    go_enter Tryd.func15, Tryd.ntmps15
    have HS0 := Lib.hid ((Ds.nil w).box (wv (A)) 24 (w.heap.size) rfl)
    have g1_0 : Blk (w.alloc (.cells (wv (A)) 24)) (w.heap.size) (wv (A)) 24 := HS0.out.all 0 _ rfl
    have tb1 : Tab (w.alloc (.cells (wv (A)) 24)) := HTab.out.below0 HS0.out.le
    have H101 : Hid (Ds [(w.heap.size + 1, wv (0), 24), (w.heap.size, wv (A), 24)] w ((w.alloc (.cells (wv (A)) 24)).alloc (.cells #[.int .u64 0, .int .u64 0, .int .u64 0, .int .u64 0, .int .u64 0, .int .u64 0] 24))) := Lib.hid (HS0.out.zero 24 _ (by simp))
    have g2_0 : Blk ((w.alloc (.cells (wv (A)) 24)).alloc (.cells #[.int .u64 0, .int .u64 0, .int .u64 0, .int .u64 0, .int .u64 0, .int .u64 0] 24)) (w.heap.size + 1) (wv (0)) 24 := H101.out.all 0 _ rfl
    have g2_1 : Blk ((w.alloc (.cells (wv (A)) 24)).alloc (.cells #[.int .u64 0, .int .u64 0, .int .u64 0, .int .u64 0, .int .u64 0, .int .u64 0] 24)) (w.heap.size) (wv (A)) 24 := H101.out.all 1 _ rfl
    have tb2 : Tab ((w.alloc (.cells (wv (A)) 24)).alloc (.cells #[.int .u64 0, .int .u64 0, .int .u64 0, .int .u64 0, .int .u64 0, .int .u64 0] 24)) := HTab.out.below0 H101.out.le
    go_wp2_with (first
      | (refine wpList_load_wv rfl 24 _ rfl _ rfl 24 _ _ (by with_reducible assumption) Tryd.underlying24 rfl (by kernel_rfl) ?_)
      | (refine wpList_load_wv_g rfl 24 _ rfl _ rfl 24 _ _ (by with_reducible assumption) Tryd.underlying24 rfl (by kernel_rfl) ?_)
      | (go_at_call 22; (with_reducible refine (C1.out _ (by with_reducible assumption)).mono ?_); rintro e wc2 ⟨rfl, bc2⟩; clear C1; have H103 : Hid (Ds [(w.heap.size + 1, wv (0), 24), (w.heap.size, wv (A), 24)] w wc2) := Lib.hid (H101.out.call bc2); clear g1_0 tb1 g2_0 g2_1 tb2 bc2 H101; have g3_0 : Blk wc2 (w.heap.size + 1) (wv (0)) 24 := H103.out.all 0 _ rfl; have g3_1 : Blk wc2 (w.heap.size) (wv (A)) 24 := H103.out.all 1 _ rfl; have tb3 : Tab wc2 := HTab.out.below0 H103.out.le)
      | (refine wpList_store_wv rfl 24 _ _ rfl (wc2.heap.size) (x) rfl rfl 24 0 (Blk.zeroAt _ _ rfl) (by kernel_rfl) ?_; have H104 : Hid (Ds [(wc2.heap.size, wv (x), 24), (w.heap.size + 1, wv (0), 24), (w.heap.size, wv (A), 24)] w ((wc2.alloc (.cells #[.int .u64 0, .int .u64 0, .int .u64 0, .int .u64 0, .int .u64 0, .int .u64 0] 24)).setRow wc2.heap.size (wv (x)))) := Lib.hid ((H103.out.box #[.int .u64 0, .int .u64 0, .int .u64 0, .int .u64 0, .int .u64 0, .int .u64 0] 24 _ rfl).setRow 0 (wv (x)) _ _ _ rfl); clear g3_0 g3_1 tb3 H103; have g4_0 : Blk ((wc2.alloc (.cells #[.int .u64 0, .int .u64 0, .int .u64 0, .int .u64 0, .int .u64 0, .int .u64 0] 24)).setRow wc2.heap.size (wv (x))) (wc2.heap.size) (wv (x)) 24 := H104.out.all 0 _ rfl; have g4_1 : Blk ((wc2.alloc (.cells #[.int .u64 0, .int .u64 0, .int .u64 0, .int .u64 0, .int .u64 0, .int .u64 0] 24)).setRow wc2.heap.size (wv (x))) (w.heap.size + 1) (wv (0)) 24 := H104.out.all 1 _ rfl; have g4_2 : Blk ((wc2.alloc (.cells #[.int .u64 0, .int .u64 0, .int .u64 0, .int .u64 0, .int .u64 0, .int .u64 0] 24)).setRow wc2.heap.size (wv (x))) (w.heap.size) (wv (A)) 24 := H104.out.all 2 _ rfl; have tb4 : Tab ((wc2.alloc (.cells #[.int .u64 0, .int .u64 0, .int .u64 0, .int .u64 0, .int .u64 0, .int .u64 0] 24)).setRow wc2.heap.size (wv (x))) := HTab.out.below0 H104.out.le)
      | (refine wpList_store_wv rfl 24 _ _ rfl (w.heap.size + 1) (x) rfl rfl 24 (0) (by with_reducible assumption) (by kernel_rfl) ?_; have H105 : Hid (Ds [(wc2.heap.size, wv (x), 24), (w.heap.size + 1, wv (x), 24), (w.heap.size, wv (A), 24)] w (((wc2.alloc (.cells #[.int .u64 0, .int .u64 0, .int .u64 0, .int .u64 0, .int .u64 0, .int .u64 0] 24)).setRow wc2.heap.size (wv (x))).setRow (w.heap.size + 1) (wv (x)))) := Lib.hid (H104.out.setRow 1 (wv (x)) _ _ _ rfl); clear g4_0 g4_1 g4_2 tb4 H104; have g5_0 : Blk (((wc2.alloc (.cells #[.int .u64 0, .int .u64 0, .int .u64 0, .int .u64 0, .int .u64 0, .int .u64 0] 24)).setRow wc2.heap.size (wv (x))).setRow (w.heap.size + 1) (wv (x))) (wc2.heap.size) (wv (x)) 24 := H105.out.all 0 _ rfl; have g5_1 : Blk (((wc2.alloc (.cells #[.int .u64 0, .int .u64 0, .int .u64 0, .int .u64 0, .int .u64 0, .int .u64 0] 24)).setRow wc2.heap.size (wv (x))).setRow (w.heap.size + 1) (wv (x))) (w.heap.size + 1) (wv (x)) 24 := H105.out.all 1 _ rfl; have g5_2 : Blk (((wc2.alloc (.cells #[.int .u64 0, .int .u64 0, .int .u64 0, .int .u64 0, .int .u64 0, .int .u64 0] 24)).setRow wc2.heap.size (wv (x))).setRow (w.heap.size + 1) (wv (x))) (w.heap.size) (wv (A)) 24 := H105.out.all 2 _ rfl; have tb5 : Tab (((wc2.alloc (.cells #[.int .u64 0, .int .u64 0, .int .u64 0, .int .u64 0, .int .u64 0, .int .u64 0] 24)).setRow wc2.heap.size (wv (x))).setRow (w.heap.size + 1) (wv (x))) := HTab.out.below0 H105.out.le))
    refine bodyPost_ret (results_cell rfl _ _ (w.heap.size + 1) 24 (wv (x)) _ rfl (H105.out.all 1 _ rfl) Tryd.underlying24 rfl (by rw [wv_size]; kernel_rfl)) rfl ?_
    exact ⟨rfl, H105.out.le⟩
  · have e : jamR A c = A / 2 ^ c ||| 1 := if_neg h0
    rw [e]
    obtain ⟨x, hx⟩ : ∃ x, A / 2 ^ c = x := ⟨_, rfl⟩
    rw [hx]
    have C1 : Hid (∀ W, Tab W → Calls Tryd.prog 22 #[.agg (wv (A)), .int .i64 n] W fun e w' => e = .returned (.tuple #[.agg (wv x), .bool true]) ∧ Below W.heap.size W w') := Lib.hid fun W hT => by have := wright_c A n W hA hT; rwa [hc, hx, decide_eq_true h0] at this
    obtain ⟨y, hy⟩ : ∃ y, limb (x ||| 1) 0 = y := ⟨_, rfl⟩
    have f1 := or1_cell hy
    have HY := Lib.hid (or1_row hy)
    clear hc h0 e hx hA hy
    go_enter Tryd.func15, Tryd.ntmps15
    have HS0 := Lib.hid ((Ds.nil w).box (wv (A)) 24 (w.heap.size) rfl)
    have g1_0 : Blk (w.alloc (.cells (wv (A)) 24)) (w.heap.size) (wv (A)) 24 := HS0.out.all 0 _ rfl
    have tb1 : Tab (w.alloc (.cells (wv (A)) 24)) := HTab.out.below0 HS0.out.le
    have H106 : Hid (Ds [(w.heap.size + 1, wv (0), 24), (w.heap.size, wv (A), 24)] w ((w.alloc (.cells (wv (A)) 24)).alloc (.cells #[.int .u64 0, .int .u64 0, .int .u64 0, .int .u64 0, .int .u64 0, .int .u64 0] 24))) := Lib.hid (HS0.out.zero 24 _ (by simp))
    have g2_0 : Blk ((w.alloc (.cells (wv (A)) 24)).alloc (.cells #[.int .u64 0, .int .u64 0, .int .u64 0, .int .u64 0, .int .u64 0, .int .u64 0] 24)) (w.heap.size + 1) (wv (0)) 24 := H106.out.all 0 _ rfl
    have g2_1 : Blk ((w.alloc (.cells (wv (A)) 24)).alloc (.cells #[.int .u64 0, .int .u64 0, .int .u64 0, .int .u64 0, .int .u64 0, .int .u64 0] 24)) (w.heap.size) (wv (A)) 24 := H106.out.all 1 _ rfl
    have tb2 : Tab ((w.alloc (.cells (wv (A)) 24)).alloc (.cells #[.int .u64 0, .int .u64 0, .int .u64 0, .int .u64 0, .int .u64 0, .int .u64 0] 24)) := HTab.out.below0 H106.out.le
    go_wp2_with (first
      | (refine wpList_load_wv rfl 24 _ rfl _ rfl 24 _ _ (by with_reducible assumption) Tryd.underlying24 rfl (by kernel_rfl) ?_)
      | (refine wpList_load_wv_g rfl 24 _ rfl _ rfl 24 _ _ (by with_reducible assumption) Tryd.underlying24 rfl (by kernel_rfl) ?_)
      | (go_at_call 22; (with_reducible refine (C1.out _ (by with_reducible assumption)).mono ?_); rintro e wc7 ⟨rfl, bc7⟩; clear C1; have H108 : Hid (Ds [(w.heap.size + 1, wv (0), 24), (w.heap.size, wv (A), 24)] w wc7) := Lib.hid (H106.out.call bc7); clear g1_0 tb1 g2_0 g2_1 tb2 bc7 H106; have g3_0 : Blk wc7 (w.heap.size + 1) (wv (0)) 24 := H108.out.all 0 _ rfl; have g3_1 : Blk wc7 (w.heap.size) (wv (A)) 24 := H108.out.all 1 _ rfl; have tb3 : Tab wc7 := HTab.out.below0 H108.out.le)
      | (refine wpList_store_wv rfl 24 _ _ rfl (wc7.heap.size) (x) rfl rfl 24 0 (Blk.zeroAt _ _ rfl) (by kernel_rfl) ?_; have H109 : Hid (Ds [(wc7.heap.size, wv (x), 24), (w.heap.size + 1, wv (0), 24), (w.heap.size, wv (A), 24)] w ((wc7.alloc (.cells #[.int .u64 0, .int .u64 0, .int .u64 0, .int .u64 0, .int .u64 0, .int .u64 0] 24)).setRow wc7.heap.size (wv (x)))) := Lib.hid ((H108.out.box #[.int .u64 0, .int .u64 0, .int .u64 0, .int .u64 0, .int .u64 0, .int .u64 0] 24 _ rfl).setRow 0 (wv (x)) _ _ _ rfl); clear g3_0 g3_1 tb3 H108; have g4_0 : Blk ((wc7.alloc (.cells #[.int .u64 0, .int .u64 0, .int .u64 0, .int .u64 0, .int .u64 0, .int .u64 0] 24)).setRow wc7.heap.size (wv (x))) (wc7.heap.size) (wv (x)) 24 := H109.out.all 0 _ rfl; have g4_1 : Blk ((wc7.alloc (.cells #[.int .u64 0, .int .u64 0, .int .u64 0, .int .u64 0, .int .u64 0, .int .u64 0] 24)).setRow wc7.heap.size (wv (x))) (w.heap.size + 1) (wv (0)) 24 := H109.out.all 1 _ rfl; have g4_2 : Blk ((wc7.alloc (.cells #[.int .u64 0, .int .u64 0, .int .u64 0, .int .u64 0, .int .u64 0, .int .u64 0] 24)).setRow wc7.heap.size (wv (x))) (w.heap.size) (wv (A)) 24 := H109.out.all 2 _ rfl; have tb4 : Tab ((wc7.alloc (.cells #[.int .u64 0, .int .u64 0, .int .u64 0, .int .u64 0, .int .u64 0, .int .u64 0] 24)).setRow wc7.heap.size (wv (x))) := HTab.out.below0 H109.out.le; have c110a : ((wc7.alloc (.cells #[.int .u64 0, .int .u64 0, .int .u64 0, .int .u64 0, .int .u64 0, .int .u64 0] 24)).setRow wc7.heap.size (wv (x))).cell? ⟨wc7.heap.size, 0, none⟩ = some (.int .u64 (limb (x) (0) : Nat)) := ((H109.out.all 0 _ rfl).cell _).trans (wv_get _ _ (by omega)); have c110b : ((wc7.alloc (.cells #[.int .u64 0, .int .u64 0, .int .u64 0, .int .u64 0, .int .u64 0, .int .u64 0] 24)).setRow wc7.heap.size (wv (x))).frozen? ⟨wc7.heap.size, 0, none⟩ = false := (H109.out.all 0 _ rfl).frozen _; have H111 : Hid (Ds [(wc7.heap.size, wv (x ||| 1), 24), (w.heap.size + 1, wv (0), 24), (w.heap.size, wv (A), 24)] w (((wc7.alloc (.cells #[.int .u64 0, .int .u64 0, .int .u64 0, .int .u64 0, .int .u64 0, .int .u64 0] 24)).setRow wc7.heap.size (wv (x))).setCell ⟨wc7.heap.size, 0, none⟩ (.int .u64 (y : Nat)))) := Lib.hid (by have hz := H109.out.setCell 0 (0) (.int .u64 (y : Nat)) _ _ _ rfl; rw [HY.out] at hz; exact hz); have g5_0 : Blk (((wc7.alloc (.cells #[.int .u64 0, .int .u64 0, .int .u64 0, .int .u64 0, .int .u64 0, .int .u64 0] 24)).setRow wc7.heap.size (wv (x))).setCell ⟨wc7.heap.size, 0, none⟩ (.int .u64 (y : Nat))) (wc7.heap.size) (wv (x ||| 1)) 24 := H111.out.all 0 _ rfl; have g5_1 : Blk (((wc7.alloc (.cells #[.int .u64 0, .int .u64 0, .int .u64 0, .int .u64 0, .int .u64 0, .int .u64 0] 24)).setRow wc7.heap.size (wv (x))).setCell ⟨wc7.heap.size, 0, none⟩ (.int .u64 (y : Nat))) (w.heap.size + 1) (wv (0)) 24 := H111.out.all 1 _ rfl; have g5_2 : Blk (((wc7.alloc (.cells #[.int .u64 0, .int .u64 0, .int .u64 0, .int .u64 0, .int .u64 0, .int .u64 0] 24)).setRow wc7.heap.size (wv (x))).setCell ⟨wc7.heap.size, 0, none⟩ (.int .u64 (y : Nat))) (w.heap.size) (wv (A)) 24 := H111.out.all 2 _ rfl; have tb5 : Tab (((wc7.alloc (.cells #[.int .u64 0, .int .u64 0, .int .u64 0, .int .u64 0, .int .u64 0, .int .u64 0] 24)).setRow wc7.heap.size (wv (x))).setCell ⟨wc7.heap.size, 0, none⟩ (.int .u64 (y : Nat))) := HTab.out.below0 H111.out.le)
      | (refine wpList_store_wv rfl 24 _ _ rfl (w.heap.size + 1) (x ||| 1) rfl rfl 24 (0) (by with_reducible assumption) (by kernel_rfl) ?_; have H112 : Hid (Ds [(wc7.heap.size, wv (x ||| 1), 24), (w.heap.size + 1, wv (x ||| 1), 24), (w.heap.size, wv (A), 24)] w ((((wc7.alloc (.cells #[.int .u64 0, .int .u64 0, .int .u64 0, .int .u64 0, .int .u64 0, .int .u64 0] 24)).setRow wc7.heap.size (wv (x))).setCell ⟨wc7.heap.size, 0, none⟩ (.int .u64 (y : Nat))).setRow (w.heap.size + 1) (wv (x ||| 1)))) := Lib.hid (H111.out.setRow 1 (wv (x ||| 1)) _ _ _ rfl); clear g4_0 g4_1 g4_2 tb4 c110a c110b g5_0 g5_1 g5_2 tb5 H111; have g6_0 : Blk ((((wc7.alloc (.cells #[.int .u64 0, .int .u64 0, .int .u64 0, .int .u64 0, .int .u64 0, .int .u64 0] 24)).setRow wc7.heap.size (wv (x))).setCell ⟨wc7.heap.size, 0, none⟩ (.int .u64 (y : Nat))).setRow (w.heap.size + 1) (wv (x ||| 1))) (wc7.heap.size) (wv (x ||| 1)) 24 := H112.out.all 0 _ rfl; have g6_1 : Blk ((((wc7.alloc (.cells #[.int .u64 0, .int .u64 0, .int .u64 0, .int .u64 0, .int .u64 0, .int .u64 0] 24)).setRow wc7.heap.size (wv (x))).setCell ⟨wc7.heap.size, 0, none⟩ (.int .u64 (y : Nat))).setRow (w.heap.size + 1) (wv (x ||| 1))) (w.heap.size + 1) (wv (x ||| 1)) 24 := H112.out.all 1 _ rfl; have g6_2 : Blk ((((wc7.alloc (.cells #[.int .u64 0, .int .u64 0, .int .u64 0, .int .u64 0, .int .u64 0, .int .u64 0] 24)).setRow wc7.heap.size (wv (x))).setCell ⟨wc7.heap.size, 0, none⟩ (.int .u64 (y : Nat))).setRow (w.heap.size + 1) (wv (x ||| 1))) (w.heap.size) (wv (A)) 24 := H112.out.all 2 _ rfl; have tb6 : Tab ((((wc7.alloc (.cells #[.int .u64 0, .int .u64 0, .int .u64 0, .int .u64 0, .int .u64 0, .int .u64 0] 24)).setRow wc7.heap.size (wv (x))).setCell ⟨wc7.heap.size, 0, none⟩ (.int .u64 (y : Nat))).setRow (w.heap.size + 1) (wv (x ||| 1))) := HTab.out.below0 H112.out.le))
    refine bodyPost_ret (results_cell rfl _ _ (w.heap.size + 1) 24 (wv (x ||| 1)) _ rfl (H112.out.all 1 _ rfl) Tryd.underlying24 rfl (by rw [wv_size]; kernel_rfl)) rfl ?_
    exact ⟨rfl, H112.out.le⟩
theorem rright4_c (A : Nat) (n : Int) (w : World) (hA : A < W384) : Calls Tryd.prog 18 #[.agg (wv (A)), .int .i64 n] w fun e w' => e = .returned (.agg (wv (jamR A (clamp n 384)))) ∧ Below w.heap.size w w' := by
  obtain ⟨c, hc⟩ : ∃ c, clamp n 384 = c := ⟨_, rfl⟩
  rw [hc]
  by_cases h0 : A % 2 ^ c = 0
  · have e : jamR A c = A / 2 ^ c := if_pos h0
    rw [e]
    obtain ⟨x, hx⟩ : ∃ x, A / 2 ^ c = x := ⟨_, rfl⟩
    rw [hx]
    have C1 : Hid (∀ W, Calls Tryd.prog 28 #[.agg (wv (A)), .int .i64 n] W fun e w' => e = .returned (.tuple #[.agg (wv x), .bool false]) ∧ Below W.heap.size W w') := Lib.hid fun W => by have := rright2_c A n W hA; rwa [hc, hx, decide_eq_false (fun h => h h0)] at this
    clear hc h0 e hx hA
    go_enter Tryd.func18, Tryd.ntmps18
    have HS0 := Lib.hid ((Ds.nil w).box (wv (A)) 24 (w.heap.size) rfl)
    have g1_0 : Blk (w.alloc (.cells (wv (A)) 24)) (w.heap.size) (wv (A)) 24 := HS0.out.all 0 _ rfl
    have H113 : Hid (Ds [(w.heap.size + 1, wv (0), 24), (w.heap.size, wv (A), 24)] w ((w.alloc (.cells (wv (A)) 24)).alloc (.cells #[.int .u64 0, .int .u64 0, .int .u64 0, .int .u64 0, .int .u64 0, .int .u64 0] 24))) := Lib.hid (HS0.out.zero 24 _ (by simp))
    have g2_0 : Blk ((w.alloc (.cells (wv (A)) 24)).alloc (.cells #[.int .u64 0, .int .u64 0, .int .u64 0, .int .u64 0, .int .u64 0, .int .u64 0] 24)) (w.heap.size + 1) (wv (0)) 24 := H113.out.all 0 _ rfl
    have g2_1 : Blk ((w.alloc (.cells (wv (A)) 24)).alloc (.cells #[.int .u64 0, .int .u64 0, .int .u64 0, .int .u64 0, .int .u64 0, .int .u64 0] 24)) (w.heap.size) (wv (A)) 24 := H113.out.all 1 _ rfl
    go_wp2_with (first
      | (refine wpList_load_wv rfl 24 _ rfl _ rfl 24 _ _ (by with_reducible assumption) Tryd.underlying24 rfl (by kernel_rfl) ?_)
      | (refine wpList_load_wv_g rfl 24 _ rfl _ rfl 24 _ _ (by with_reducible assumption) Tryd.underlying24 rfl (by kernel_rfl) ?_)
      | (go_at_call 28; (with_reducible refine (C1.out _).mono ?_); rintro e wc14 ⟨rfl, bc14⟩; clear C1; have H115 : Hid (Ds [(w.heap.size + 1, wv (0), 24), (w.heap.size, wv (A), 24)] w wc14) := Lib.hid (H113.out.call bc14); clear g1_0 g2_0 g2_1 bc14 H113; have g3_0 : Blk wc14 (w.heap.size + 1) (wv (0)) 24 := H115.out.all 0 _ rfl; have g3_1 : Blk wc14 (w.heap.size) (wv (A)) 24 := H115.out.all 1 _ rfl)
      | (refine wpList_store_wv rfl 24 _ _ rfl (wc14.heap.size) (x) rfl rfl 24 0 (Blk.zeroAt _ _ rfl) (by kernel_rfl) ?_; have H116 : Hid (Ds [(wc14.heap.size, wv (x), 24), (w.heap.size + 1, wv (0), 24), (w.heap.size, wv (A), 24)] w ((wc14.alloc (.cells #[.int .u64 0, .int .u64 0, .int .u64 0, .int .u64 0, .int .u64 0, .int .u64 0] 24)).setRow wc14.heap.size (wv (x)))) := Lib.hid ((H115.out.box #[.int .u64 0, .int .u64 0, .int .u64 0, .int .u64 0, .int .u64 0, .int .u64 0] 24 _ rfl).setRow 0 (wv (x)) _ _ _ rfl); clear g3_0 g3_1 H115; have g4_0 : Blk ((wc14.alloc (.cells #[.int .u64 0, .int .u64 0, .int .u64 0, .int .u64 0, .int .u64 0, .int .u64 0] 24)).setRow wc14.heap.size (wv (x))) (wc14.heap.size) (wv (x)) 24 := H116.out.all 0 _ rfl; have g4_1 : Blk ((wc14.alloc (.cells #[.int .u64 0, .int .u64 0, .int .u64 0, .int .u64 0, .int .u64 0, .int .u64 0] 24)).setRow wc14.heap.size (wv (x))) (w.heap.size + 1) (wv (0)) 24 := H116.out.all 1 _ rfl; have g4_2 : Blk ((wc14.alloc (.cells #[.int .u64 0, .int .u64 0, .int .u64 0, .int .u64 0, .int .u64 0, .int .u64 0] 24)).setRow wc14.heap.size (wv (x))) (w.heap.size) (wv (A)) 24 := H116.out.all 2 _ rfl)
      | (refine wpList_store_wv rfl 24 _ _ rfl (w.heap.size + 1) (x) rfl rfl 24 (0) (by with_reducible assumption) (by kernel_rfl) ?_; have H117 : Hid (Ds [(wc14.heap.size, wv (x), 24), (w.heap.size + 1, wv (x), 24), (w.heap.size, wv (A), 24)] w (((wc14.alloc (.cells #[.int .u64 0, .int .u64 0, .int .u64 0, .int .u64 0, .int .u64 0, .int .u64 0] 24)).setRow wc14.heap.size (wv (x))).setRow (w.heap.size + 1) (wv (x)))) := Lib.hid (H116.out.setRow 1 (wv (x)) _ _ _ rfl); clear g4_0 g4_1 g4_2 H116; have g5_0 : Blk (((wc14.alloc (.cells #[.int .u64 0, .int .u64 0, .int .u64 0, .int .u64 0, .int .u64 0, .int .u64 0] 24)).setRow wc14.heap.size (wv (x))).setRow (w.heap.size + 1) (wv (x))) (wc14.heap.size) (wv (x)) 24 := H117.out.all 0 _ rfl; have g5_1 : Blk (((wc14.alloc (.cells #[.int .u64 0, .int .u64 0, .int .u64 0, .int .u64 0, .int .u64 0, .int .u64 0] 24)).setRow wc14.heap.size (wv (x))).setRow (w.heap.size + 1) (wv (x))) (w.heap.size + 1) (wv (x)) 24 := H117.out.all 1 _ rfl; have g5_2 : Blk (((wc14.alloc (.cells #[.int .u64 0, .int .u64 0, .int .u64 0, .int .u64 0, .int .u64 0, .int .u64 0] 24)).setRow wc14.heap.size (wv (x))).setRow (w.heap.size + 1) (wv (x))) (w.heap.size) (wv (A)) 24 := H117.out.all 2 _ rfl))
    refine bodyPost_ret (results_cell rfl _ _ (w.heap.size + 1) 24 (wv (x)) _ rfl (H117.out.all 1 _ rfl) Tryd.underlying24 rfl (by rw [wv_size]; kernel_rfl)) rfl ?_
    exact ⟨rfl, H117.out.le⟩
  · have e : jamR A c = A / 2 ^ c ||| 1 := if_neg h0
    rw [e]
    obtain ⟨x, hx⟩ : ∃ x, A / 2 ^ c = x := ⟨_, rfl⟩
    rw [hx]
    have C1 : Hid (∀ W, Calls Tryd.prog 28 #[.agg (wv (A)), .int .i64 n] W fun e w' => e = .returned (.tuple #[.agg (wv x), .bool true]) ∧ Below W.heap.size W w') := Lib.hid fun W => by have := rright2_c A n W hA; rwa [hc, hx, decide_eq_true h0] at this
    obtain ⟨y, hy⟩ : ∃ y, limb (x ||| 1) 0 = y := ⟨_, rfl⟩
    have f1 := or1_cell hy
    have HY := Lib.hid (or1_row hy)
    clear hc h0 e hx hA hy
    go_enter Tryd.func18, Tryd.ntmps18
    have HS0 := Lib.hid ((Ds.nil w).box (wv (A)) 24 (w.heap.size) rfl)
    have g1_0 : Blk (w.alloc (.cells (wv (A)) 24)) (w.heap.size) (wv (A)) 24 := HS0.out.all 0 _ rfl
    have H118 : Hid (Ds [(w.heap.size + 1, wv (0), 24), (w.heap.size, wv (A), 24)] w ((w.alloc (.cells (wv (A)) 24)).alloc (.cells #[.int .u64 0, .int .u64 0, .int .u64 0, .int .u64 0, .int .u64 0, .int .u64 0] 24))) := Lib.hid (HS0.out.zero 24 _ (by simp))
    have g2_0 : Blk ((w.alloc (.cells (wv (A)) 24)).alloc (.cells #[.int .u64 0, .int .u64 0, .int .u64 0, .int .u64 0, .int .u64 0, .int .u64 0] 24)) (w.heap.size + 1) (wv (0)) 24 := H118.out.all 0 _ rfl
    have g2_1 : Blk ((w.alloc (.cells (wv (A)) 24)).alloc (.cells #[.int .u64 0, .int .u64 0, .int .u64 0, .int .u64 0, .int .u64 0, .int .u64 0] 24)) (w.heap.size) (wv (A)) 24 := H118.out.all 1 _ rfl
    go_wp2_with (first
      | (refine wpList_load_wv rfl 24 _ rfl _ rfl 24 _ _ (by with_reducible assumption) Tryd.underlying24 rfl (by kernel_rfl) ?_)
      | (refine wpList_load_wv_g rfl 24 _ rfl _ rfl 24 _ _ (by with_reducible assumption) Tryd.underlying24 rfl (by kernel_rfl) ?_)
      | (go_at_call 28; (with_reducible refine (C1.out _).mono ?_); rintro e wc19 ⟨rfl, bc19⟩; clear C1; have H120 : Hid (Ds [(w.heap.size + 1, wv (0), 24), (w.heap.size, wv (A), 24)] w wc19) := Lib.hid (H118.out.call bc19); clear g1_0 g2_0 g2_1 bc19 H118; have g3_0 : Blk wc19 (w.heap.size + 1) (wv (0)) 24 := H120.out.all 0 _ rfl; have g3_1 : Blk wc19 (w.heap.size) (wv (A)) 24 := H120.out.all 1 _ rfl)
      | (refine wpList_store_wv rfl 24 _ _ rfl (wc19.heap.size) (x) rfl rfl 24 0 (Blk.zeroAt _ _ rfl) (by kernel_rfl) ?_; have H121 : Hid (Ds [(wc19.heap.size, wv (x), 24), (w.heap.size + 1, wv (0), 24), (w.heap.size, wv (A), 24)] w ((wc19.alloc (.cells #[.int .u64 0, .int .u64 0, .int .u64 0, .int .u64 0, .int .u64 0, .int .u64 0] 24)).setRow wc19.heap.size (wv (x)))) := Lib.hid ((H120.out.box #[.int .u64 0, .int .u64 0, .int .u64 0, .int .u64 0, .int .u64 0, .int .u64 0] 24 _ rfl).setRow 0 (wv (x)) _ _ _ rfl); clear g3_0 g3_1 H120; have g4_0 : Blk ((wc19.alloc (.cells #[.int .u64 0, .int .u64 0, .int .u64 0, .int .u64 0, .int .u64 0, .int .u64 0] 24)).setRow wc19.heap.size (wv (x))) (wc19.heap.size) (wv (x)) 24 := H121.out.all 0 _ rfl; have g4_1 : Blk ((wc19.alloc (.cells #[.int .u64 0, .int .u64 0, .int .u64 0, .int .u64 0, .int .u64 0, .int .u64 0] 24)).setRow wc19.heap.size (wv (x))) (w.heap.size + 1) (wv (0)) 24 := H121.out.all 1 _ rfl; have g4_2 : Blk ((wc19.alloc (.cells #[.int .u64 0, .int .u64 0, .int .u64 0, .int .u64 0, .int .u64 0, .int .u64 0] 24)).setRow wc19.heap.size (wv (x))) (w.heap.size) (wv (A)) 24 := H121.out.all 2 _ rfl; have c122a : ((wc19.alloc (.cells #[.int .u64 0, .int .u64 0, .int .u64 0, .int .u64 0, .int .u64 0, .int .u64 0] 24)).setRow wc19.heap.size (wv (x))).cell? ⟨wc19.heap.size, 0, none⟩ = some (.int .u64 (limb (x) (0) : Nat)) := ((H121.out.all 0 _ rfl).cell _).trans (wv_get _ _ (by omega)); have c122b : ((wc19.alloc (.cells #[.int .u64 0, .int .u64 0, .int .u64 0, .int .u64 0, .int .u64 0, .int .u64 0] 24)).setRow wc19.heap.size (wv (x))).frozen? ⟨wc19.heap.size, 0, none⟩ = false := (H121.out.all 0 _ rfl).frozen _; have H123 : Hid (Ds [(wc19.heap.size, wv (x ||| 1), 24), (w.heap.size + 1, wv (0), 24), (w.heap.size, wv (A), 24)] w (((wc19.alloc (.cells #[.int .u64 0, .int .u64 0, .int .u64 0, .int .u64 0, .int .u64 0, .int .u64 0] 24)).setRow wc19.heap.size (wv (x))).setCell ⟨wc19.heap.size, 0, none⟩ (.int .u64 (y : Nat)))) := Lib.hid (by have hz := H121.out.setCell 0 (0) (.int .u64 (y : Nat)) _ _ _ rfl; rw [HY.out] at hz; exact hz); have g5_0 : Blk (((wc19.alloc (.cells #[.int .u64 0, .int .u64 0, .int .u64 0, .int .u64 0, .int .u64 0, .int .u64 0] 24)).setRow wc19.heap.size (wv (x))).setCell ⟨wc19.heap.size, 0, none⟩ (.int .u64 (y : Nat))) (wc19.heap.size) (wv (x ||| 1)) 24 := H123.out.all 0 _ rfl; have g5_1 : Blk (((wc19.alloc (.cells #[.int .u64 0, .int .u64 0, .int .u64 0, .int .u64 0, .int .u64 0, .int .u64 0] 24)).setRow wc19.heap.size (wv (x))).setCell ⟨wc19.heap.size, 0, none⟩ (.int .u64 (y : Nat))) (w.heap.size + 1) (wv (0)) 24 := H123.out.all 1 _ rfl; have g5_2 : Blk (((wc19.alloc (.cells #[.int .u64 0, .int .u64 0, .int .u64 0, .int .u64 0, .int .u64 0, .int .u64 0] 24)).setRow wc19.heap.size (wv (x))).setCell ⟨wc19.heap.size, 0, none⟩ (.int .u64 (y : Nat))) (w.heap.size) (wv (A)) 24 := H123.out.all 2 _ rfl)
      | (refine wpList_store_wv rfl 24 _ _ rfl (w.heap.size + 1) (x ||| 1) rfl rfl 24 (0) (by with_reducible assumption) (by kernel_rfl) ?_; have H124 : Hid (Ds [(wc19.heap.size, wv (x ||| 1), 24), (w.heap.size + 1, wv (x ||| 1), 24), (w.heap.size, wv (A), 24)] w ((((wc19.alloc (.cells #[.int .u64 0, .int .u64 0, .int .u64 0, .int .u64 0, .int .u64 0, .int .u64 0] 24)).setRow wc19.heap.size (wv (x))).setCell ⟨wc19.heap.size, 0, none⟩ (.int .u64 (y : Nat))).setRow (w.heap.size + 1) (wv (x ||| 1)))) := Lib.hid (H123.out.setRow 1 (wv (x ||| 1)) _ _ _ rfl); clear g4_0 g4_1 g4_2 c122a c122b g5_0 g5_1 g5_2 H123; have g6_0 : Blk ((((wc19.alloc (.cells #[.int .u64 0, .int .u64 0, .int .u64 0, .int .u64 0, .int .u64 0, .int .u64 0] 24)).setRow wc19.heap.size (wv (x))).setCell ⟨wc19.heap.size, 0, none⟩ (.int .u64 (y : Nat))).setRow (w.heap.size + 1) (wv (x ||| 1))) (wc19.heap.size) (wv (x ||| 1)) 24 := H124.out.all 0 _ rfl; have g6_1 : Blk ((((wc19.alloc (.cells #[.int .u64 0, .int .u64 0, .int .u64 0, .int .u64 0, .int .u64 0, .int .u64 0] 24)).setRow wc19.heap.size (wv (x))).setCell ⟨wc19.heap.size, 0, none⟩ (.int .u64 (y : Nat))).setRow (w.heap.size + 1) (wv (x ||| 1))) (w.heap.size + 1) (wv (x ||| 1)) 24 := H124.out.all 1 _ rfl; have g6_2 : Blk ((((wc19.alloc (.cells #[.int .u64 0, .int .u64 0, .int .u64 0, .int .u64 0, .int .u64 0, .int .u64 0] 24)).setRow wc19.heap.size (wv (x))).setCell ⟨wc19.heap.size, 0, none⟩ (.int .u64 (y : Nat))).setRow (w.heap.size + 1) (wv (x ||| 1))) (w.heap.size) (wv (A)) 24 := H124.out.all 2 _ rfl))
    refine bodyPost_ret (results_cell rfl _ _ (w.heap.size + 1) 24 (wv (x ||| 1)) _ rfl (H124.out.all 1 _ rfl) Tryd.underlying24 rfl (by rw [wv_size]; kernel_rfl)) rfl ?_
    exact ⟨rfl, H124.out.le⟩
theorem jalign_c (A : Nat) (n : Int) (w : World) (hA : A < W384) (hT : Tab w) : Calls Tryd.prog 16 #[.agg (wv (A)), .int .i64 n] w fun e w' => e = .returned (.tuple #[.agg (wv (A / 2 ^ clamp n 384)), .bool (decide (A % 2 ^ clamp n 384 ≠ 0))]) ∧ Below w.heap.size w w' := by
  have HTab := Lib.hid hT
  clear hT
  obtain ⟨c, hc⟩ : ∃ c, clamp n 384 = c := ⟨_, rfl⟩
  rw [hc]
  obtain ⟨x, hx⟩ : ∃ x, A / 2 ^ c = x := ⟨_, rfl⟩
  obtain ⟨z, hz⟩ : ∃ z, decide (A % 2 ^ c ≠ 0) = z := ⟨_, rfl⟩
  rw [hx, hz]
  have C1 : Hid (∀ W, Tab W → Calls Tryd.prog 22 #[.agg (wv (A)), .int .i64 n] W fun e w' => e = .returned (.tuple #[.agg (wv x), .bool z]) ∧ Below W.heap.size W w') := Lib.hid fun W hT => by have := wright_c A n W hA hT; rwa [hc, hx, hz] at this
  clear hc hx hz hA
  go_enter Tryd.func16, Tryd.ntmps16
  have HS0 := Lib.hid ((Ds.nil w).box (wv (A)) 24 (w.heap.size) rfl)
  have g1_0 : Blk (w.alloc (.cells (wv (A)) 24)) (w.heap.size) (wv (A)) 24 := HS0.out.all 0 _ rfl
  have tb1 : Tab (w.alloc (.cells (wv (A)) 24)) := HTab.out.below0 HS0.out.le
  have H125 : Hid (Ds [(w.heap.size + 1, wv (0), 24), (w.heap.size, wv (A), 24)] w ((w.alloc (.cells (wv (A)) 24)).alloc (.cells #[.int .u64 0, .int .u64 0, .int .u64 0, .int .u64 0, .int .u64 0, .int .u64 0] 24))) := Lib.hid (HS0.out.zero 24 _ (by simp))
  have g2_0 : Blk ((w.alloc (.cells (wv (A)) 24)).alloc (.cells #[.int .u64 0, .int .u64 0, .int .u64 0, .int .u64 0, .int .u64 0, .int .u64 0] 24)) (w.heap.size + 1) (wv (0)) 24 := H125.out.all 0 _ rfl
  have g2_1 : Blk ((w.alloc (.cells (wv (A)) 24)).alloc (.cells #[.int .u64 0, .int .u64 0, .int .u64 0, .int .u64 0, .int .u64 0, .int .u64 0] 24)) (w.heap.size) (wv (A)) 24 := H125.out.all 1 _ rfl
  have tb2 : Tab ((w.alloc (.cells (wv (A)) 24)).alloc (.cells #[.int .u64 0, .int .u64 0, .int .u64 0, .int .u64 0, .int .u64 0, .int .u64 0] 24)) := HTab.out.below0 H125.out.le
  go_wp2_with (first
    | (refine wpList_load_wv rfl 24 _ rfl _ rfl 24 _ _ (by with_reducible assumption) Tryd.underlying24 rfl (by kernel_rfl) ?_)
    | (refine wpList_load_wv_g rfl 24 _ rfl _ rfl 24 _ _ (by with_reducible assumption) Tryd.underlying24 rfl (by kernel_rfl) ?_)
    | (go_at_call 22; (with_reducible refine (C1.out _ (by with_reducible assumption)).mono ?_); rintro e wc26 ⟨rfl, bc26⟩; clear C1; have H127 : Hid (Ds [(w.heap.size + 1, wv (0), 24), (w.heap.size, wv (A), 24)] w wc26) := Lib.hid (H125.out.call bc26); clear g1_0 tb1 g2_0 g2_1 tb2 bc26 H125; have g3_0 : Blk wc26 (w.heap.size + 1) (wv (0)) 24 := H127.out.all 0 _ rfl; have g3_1 : Blk wc26 (w.heap.size) (wv (A)) 24 := H127.out.all 1 _ rfl; have tb3 : Tab wc26 := HTab.out.below0 H127.out.le)
    | (refine wpList_store_wv rfl 24 _ _ rfl (w.heap.size + 1) (x) rfl rfl 24 (0) (by with_reducible assumption) (by kernel_rfl) ?_; have H128 : Hid (Ds [(w.heap.size + 1, wv (x), 24), (w.heap.size, wv (A), 24)] w (wc26.setRow (w.heap.size + 1) (wv (x)))) := Lib.hid (H127.out.setRow 0 (wv (x)) _ _ _ rfl); clear g3_0 g3_1 tb3 H127; have g4_0 : Blk (wc26.setRow (w.heap.size + 1) (wv (x))) (w.heap.size + 1) (wv (x)) 24 := H128.out.all 0 _ rfl; have g4_1 : Blk (wc26.setRow (w.heap.size + 1) (wv (x))) (w.heap.size) (wv (A)) 24 := H128.out.all 1 _ rfl; have tb4 : Tab (wc26.setRow (w.heap.size + 1) (wv (x))) := HTab.out.below0 H128.out.le))
  refine bodyPost_ret (results_cell_tmp rfl _ _ (w.heap.size + 1) 24 (wv x) _ rfl (H128.out.all 0 _ rfl) Tryd.underlying24 rfl (by rw [wv_size]; kernel_rfl)) rfl ?_
  exact ⟨rfl, H128.out.le⟩
theorem ralign4_c (A : Nat) (n : Int) (w : World) (hA : A < W384) : Calls Tryd.prog 17 #[.agg (wv (A)), .int .i64 n] w fun e w' => e = .returned (.tuple #[.agg (wv (A / 2 ^ clamp n 384)), .bool (decide (A % 2 ^ clamp n 384 ≠ 0))]) ∧ Below w.heap.size w w' := by
  obtain ⟨c, hc⟩ : ∃ c, clamp n 384 = c := ⟨_, rfl⟩
  rw [hc]
  obtain ⟨x, hx⟩ : ∃ x, A / 2 ^ c = x := ⟨_, rfl⟩
  obtain ⟨z, hz⟩ : ∃ z, decide (A % 2 ^ c ≠ 0) = z := ⟨_, rfl⟩
  rw [hx, hz]
  have C1 : Hid (∀ W, Calls Tryd.prog 28 #[.agg (wv (A)), .int .i64 n] W fun e w' => e = .returned (.tuple #[.agg (wv x), .bool z]) ∧ Below W.heap.size W w') := Lib.hid fun W => by have := rright2_c A n W hA; rwa [hc, hx, hz] at this
  clear hc hx hz hA
  go_enter Tryd.func17, Tryd.ntmps17
  have HS0 := Lib.hid ((Ds.nil w).box (wv (A)) 24 (w.heap.size) rfl)
  have g1_0 : Blk (w.alloc (.cells (wv (A)) 24)) (w.heap.size) (wv (A)) 24 := HS0.out.all 0 _ rfl
  have H129 : Hid (Ds [(w.heap.size + 1, wv (0), 24), (w.heap.size, wv (A), 24)] w ((w.alloc (.cells (wv (A)) 24)).alloc (.cells #[.int .u64 0, .int .u64 0, .int .u64 0, .int .u64 0, .int .u64 0, .int .u64 0] 24))) := Lib.hid (HS0.out.zero 24 _ (by simp))
  have g2_0 : Blk ((w.alloc (.cells (wv (A)) 24)).alloc (.cells #[.int .u64 0, .int .u64 0, .int .u64 0, .int .u64 0, .int .u64 0, .int .u64 0] 24)) (w.heap.size + 1) (wv (0)) 24 := H129.out.all 0 _ rfl
  have g2_1 : Blk ((w.alloc (.cells (wv (A)) 24)).alloc (.cells #[.int .u64 0, .int .u64 0, .int .u64 0, .int .u64 0, .int .u64 0, .int .u64 0] 24)) (w.heap.size) (wv (A)) 24 := H129.out.all 1 _ rfl
  go_wp2_with (first
    | (refine wpList_load_wv rfl 24 _ rfl _ rfl 24 _ _ (by with_reducible assumption) Tryd.underlying24 rfl (by kernel_rfl) ?_)
    | (refine wpList_load_wv_g rfl 24 _ rfl _ rfl 24 _ _ (by with_reducible assumption) Tryd.underlying24 rfl (by kernel_rfl) ?_)
    | (go_at_call 28; (with_reducible refine (C1.out _).mono ?_); rintro e wc30 ⟨rfl, bc30⟩; clear C1; have H131 : Hid (Ds [(w.heap.size + 1, wv (0), 24), (w.heap.size, wv (A), 24)] w wc30) := Lib.hid (H129.out.call bc30); clear g1_0 g2_0 g2_1 bc30 H129; have g3_0 : Blk wc30 (w.heap.size + 1) (wv (0)) 24 := H131.out.all 0 _ rfl; have g3_1 : Blk wc30 (w.heap.size) (wv (A)) 24 := H131.out.all 1 _ rfl)
    | (refine wpList_store_wv rfl 24 _ _ rfl (w.heap.size + 1) (x) rfl rfl 24 (0) (by with_reducible assumption) (by kernel_rfl) ?_; have H132 : Hid (Ds [(w.heap.size + 1, wv (x), 24), (w.heap.size, wv (A), 24)] w (wc30.setRow (w.heap.size + 1) (wv (x)))) := Lib.hid (H131.out.setRow 0 (wv (x)) _ _ _ rfl); clear g3_0 g3_1 H131; have g4_0 : Blk (wc30.setRow (w.heap.size + 1) (wv (x))) (w.heap.size + 1) (wv (x)) 24 := H132.out.all 0 _ rfl; have g4_1 : Blk (wc30.setRow (w.heap.size + 1) (wv (x))) (w.heap.size) (wv (A)) 24 := H132.out.all 1 _ rfl))
  refine bodyPost_ret (results_cell_tmp rfl _ _ (w.heap.size + 1) 24 (wv x) _ rfl (H132.out.all 0 _ rfl) Tryd.underlying24 rfl (by rw [wv_size]; kernel_rfl)) rfl ?_
  exact ⟨rfl, H132.out.le⟩
end Go.Proofs.YtlpgflmjpdhpnaaDoor
