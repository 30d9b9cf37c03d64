/- The contract of abacusref04.Cut. -/
import Derived.Test.YtlpgflmjpdhpnaaDoorRows
import Derived.Test.YtlpgflmjpdhpnaaDoorG
import Derived.Test.YtlpgflmjpdhpnaaDoorB
import Derived.Test.YtlpgflmjpdhpnaaDoorJb
import Derived.Test.YtlpgflmjpdhpnaaDoorTs
import Derived.Test.YtlpgflmjpdhpnaaDoorTa
import Derived.Test.YtlpgflmjpdhpnaaDoorTm
import Derived.Test.YtlpgflmjpdhpnaaDoorXi
import Derived.Test.YtlpgflmjpdhpnaaDoorKq
namespace Go.Proofs.YtlpgflmjpdhpnaaDoor
open Go.RowKit
set_option maxHeartbeats 4000000
set_option maxRecDepth 100000
set_option linter.unusedVariables false
set_option linter.unusedSimpArgs false
set_option exponentiation.threshold 1000
theorem rcut4_neg (A : Nat) (n : Int) (hA : A < W384) (hn : n < 0) (w : World) : Calls Tryd.prog 13 #[.agg (wv (A)), .int .i64 n] w fun e w' => e = .returned (.tuple #[.agg (wv A), .int .i64 (-1), .bool true]) ∧ Below w.heap.size w w' := by
  obtain ⟨x, hx⟩ : ∃ x, A / 2 ^ clamp 0 384 = x := ⟨_, rfl⟩
  obtain ⟨z, hz⟩ : ∃ z, decide (A % 2 ^ clamp 0 384 ≠ 0) = z := ⟨_, rfl⟩
  have C1 : Hid (∀ W, Calls Tryd.prog 28 #[.agg (wv (A)), .int .i64 0] W fun e w' => e = .returned (.tuple #[.agg (wv x), .bool z]) ∧ Below W.heap.size W w') := Lib.hid fun W => by have := rright2_c A 0 W hA; rwa [hx, hz] at this
  clear hx hz hA
  go_enter Tryd.func13, Tryd.ntmps13
  have HS0 := Lib.hid ((Ds.nil w).box (wv (A)) 24 (w.heap.size) rfl)
  have g1_0 : Blk (w.alloc (.cells (wv (A)) 24)) (w.heap.size) (wv (A)) 24 := HS0.out.all 0 _ rfl
  have H101 : Hid (Ds [(w.heap.size + 1, wv (0), 24), (w.heap.size, wv (A), 24)] w ((w.alloc (.cells (wv (A)) 24)).alloc (.cells #[.int .u64 0, .int .u64 0, .int .u64 0, .int .u64 0, .int .u64 0, .int .u64 0] 24))) := Lib.hid (HS0.out.zero 24 _ (by simp))
  have g2_0 : Blk ((w.alloc (.cells (wv (A)) 24)).alloc (.cells #[.int .u64 0, .int .u64 0, .int .u64 0, .int .u64 0, .int .u64 0, .int .u64 0] 24)) (w.heap.size + 1) (wv (0)) 24 := H101.out.all 0 _ rfl
  have g2_1 : Blk ((w.alloc (.cells (wv (A)) 24)).alloc (.cells #[.int .u64 0, .int .u64 0, .int .u64 0, .int .u64 0, .int .u64 0, .int .u64 0] 24)) (w.heap.size) (wv (A)) 24 := H101.out.all 1 _ rfl
  go_wp2_with (first
    | (refine wpList_load_wv rfl 24 _ rfl _ rfl 24 _ _ (by with_reducible assumption) Tryd.underlying24 rfl (by kernel_rfl) ?_)
    | (refine wpList_load_wv_g rfl 24 _ rfl _ rfl 24 _ _ (by with_reducible assumption) Tryd.underlying24 rfl (by kernel_rfl) ?_)
    | (go_at_call 28; (with_reducible refine (C1.out _).mono ?_); rintro e wc2 ⟨rfl, bc2⟩; clear C1; have H103 : Hid (Ds [(w.heap.size + 1, wv (0), 24), (w.heap.size, wv (A), 24)] w wc2) := Lib.hid (H101.out.call bc2); clear g1_0 g2_0 g2_1 bc2 H101; have g3_0 : Blk wc2 (w.heap.size + 1) (wv (0)) 24 := H103.out.all 0 _ rfl; have g3_1 : Blk wc2 (w.heap.size) (wv (A)) 24 := H103.out.all 1 _ rfl)
    | (refine wpList_store_wv rfl 24 _ _ rfl (wc2.heap.size) (x) rfl rfl 24 0 (Blk.zeroAt _ _ rfl) (by kernel_rfl) ?_; have H104 : Hid (Ds [(wc2.heap.size, wv (x), 24), (w.heap.size + 1, wv (0), 24), (w.heap.size, wv (A), 24)] w ((wc2.alloc (.cells #[.int .u64 0, .int .u64 0, .int .u64 0, .int .u64 0, .int .u64 0, .int .u64 0] 24)).setRow wc2.heap.size (wv (x)))) := Lib.hid ((H103.out.box #[.int .u64 0, .int .u64 0, .int .u64 0, .int .u64 0, .int .u64 0, .int .u64 0] 24 _ rfl).setRow 0 (wv (x)) _ _ _ rfl); clear g3_0 g3_1 H103; have g4_0 : Blk ((wc2.alloc (.cells #[.int .u64 0, .int .u64 0, .int .u64 0, .int .u64 0, .int .u64 0, .int .u64 0] 24)).setRow wc2.heap.size (wv (x))) (wc2.heap.size) (wv (x)) 24 := H104.out.all 0 _ rfl; have g4_1 : Blk ((wc2.alloc (.cells #[.int .u64 0, .int .u64 0, .int .u64 0, .int .u64 0, .int .u64 0, .int .u64 0] 24)).setRow wc2.heap.size (wv (x))) (w.heap.size + 1) (wv (0)) 24 := H104.out.all 1 _ rfl; have g4_2 : Blk ((wc2.alloc (.cells #[.int .u64 0, .int .u64 0, .int .u64 0, .int .u64 0, .int .u64 0, .int .u64 0] 24)).setRow wc2.heap.size (wv (x))) (w.heap.size) (wv (A)) 24 := H104.out.all 2 _ rfl)
    | (refine wpList_store_wv rfl 24 _ _ rfl (w.heap.size + 1) (A) rfl rfl 24 (0) (by with_reducible assumption) (by kernel_rfl) ?_; have H105 : Hid (Ds [(wc2.heap.size, wv (x), 24), (w.heap.size + 1, wv (A), 24), (w.heap.size, wv (A), 24)] w (((wc2.alloc (.cells #[.int .u64 0, .int .u64 0, .int .u64 0, .int .u64 0, .int .u64 0, .int .u64 0] 24)).setRow wc2.heap.size (wv (x))).setRow (w.heap.size + 1) (wv (A)))) := Lib.hid (H104.out.setRow 1 (wv (A)) _ _ _ rfl); clear g4_0 g4_1 g4_2 H104; have g5_0 : Blk (((wc2.alloc (.cells #[.int .u64 0, .int .u64 0, .int .u64 0, .int .u64 0, .int .u64 0, .int .u64 0] 24)).setRow wc2.heap.size (wv (x))).setRow (w.heap.size + 1) (wv (A))) (wc2.heap.size) (wv (x)) 24 := H105.out.all 0 _ rfl; have g5_1 : Blk (((wc2.alloc (.cells #[.int .u64 0, .int .u64 0, .int .u64 0, .int .u64 0, .int .u64 0, .int .u64 0] 24)).setRow wc2.heap.size (wv (x))).setRow (w.heap.size + 1) (wv (A))) (w.heap.size + 1) (wv (A)) 24 := H105.out.all 1 _ rfl; have g5_2 : Blk (((wc2.alloc (.cells #[.int .u64 0, .int .u64 0, .int .u64 0, .int .u64 0, .int .u64 0, .int .u64 0] 24)).setRow wc2.heap.size (wv (x))).setRow (w.heap.size + 1) (wv (A))) (w.heap.size) (wv (A)) 24 := H105.out.all 2 _ rfl))
  refine bodyPost_ret (results_ctt rfl _ _ (w.heap.size + 1) 24 _ _ rfl (H105.out.all 1 _ rfl) Tryd.underlying24 rfl (by rw [wv_size]; kernel_rfl)) rfl ?_
  exact ⟨ret3 rfl (by rfl) (by rfl), H105.out.le⟩
theorem rcut4_zero (A : Nat) (hA : A < W384) (w : World) : Calls Tryd.prog 13 #[.agg (wv (A)), .int .i64 0] w fun e w' => e = .returned (.tuple #[.agg (wv A), .int .i64 (-1), .bool true]) ∧ Below w.heap.size w w' := by
  obtain ⟨x, hx⟩ : ∃ x, A / 2 ^ clamp 0 384 = x := ⟨_, rfl⟩
  obtain ⟨z, hz⟩ : ∃ z, decide (A % 2 ^ clamp 0 384 ≠ 0) = z := ⟨_, rfl⟩
  have C1 : Hid (∀ W, Calls Tryd.prog 28 #[.agg (wv (A)), .int .i64 0] W fun e w' => e = .returned (.tuple #[.agg (wv x), .bool z]) ∧ Below W.heap.size W w') := Lib.hid fun W => by have := rright2_c A 0 W hA; rwa [hx, hz] at this
  clear hx hz hA
  go_enter Tryd.func13, Tryd.ntmps13
  have HS0 := Lib.hid ((Ds.nil w).box (wv (A)) 24 (w.heap.size) rfl)
  have g1_0 : Blk (w.alloc (.cells (wv (A)) 24)) (w.heap.size) (wv (A)) 24 := HS0.out.all 0 _ rfl
  have H106 : Hid (Ds [(w.heap.size + 1, wv (0), 24), (w.heap.size, wv (A), 24)] w ((w.alloc (.cells (wv (A)) 24)).alloc (.cells #[.int .u64 0, .int .u64 0, .int .u64 0, .int .u64 0, .int .u64 0, .int .u64 0] 24))) := Lib.hid (HS0.out.zero 24 _ (by simp))
  have g2_0 : Blk ((w.alloc (.cells (wv (A)) 24)).alloc (.cells #[.int .u64 0, .int .u64 0, .int .u64 0, .int .u64 0, .int .u64 0, .int .u64 0] 24)) (w.heap.size + 1) (wv (0)) 24 := H106.out.all 0 _ rfl
  have g2_1 : Blk ((w.alloc (.cells (wv (A)) 24)).alloc (.cells #[.int .u64 0, .int .u64 0, .int .u64 0, .int .u64 0, .int .u64 0, .int .u64 0] 24)) (w.heap.size) (wv (A)) 24 := H106.out.all 1 _ rfl
  go_wp2_with (first
    | (refine wpList_load_wv rfl 24 _ rfl _ rfl 24 _ _ (by with_reducible assumption) Tryd.underlying24 rfl (by kernel_rfl) ?_)
    | (refine wpList_load_wv_g rfl 24 _ rfl _ rfl 24 _ _ (by with_reducible assumption) Tryd.underlying24 rfl (by kernel_rfl) ?_)
    | (go_at_call 28; (with_reducible refine (C1.out _).mono ?_); rintro e wc7 ⟨rfl, bc7⟩; clear C1; have H108 : Hid (Ds [(w.heap.size + 1, wv (0), 24), (w.heap.size, wv (A), 24)] w wc7) := Lib.hid (H106.out.call bc7); clear g1_0 g2_0 g2_1 bc7 H106; have g3_0 : Blk wc7 (w.heap.size + 1) (wv (0)) 24 := H108.out.all 0 _ rfl; have g3_1 : Blk wc7 (w.heap.size) (wv (A)) 24 := H108.out.all 1 _ rfl)
    | (refine wpList_store_wv rfl 24 _ _ rfl (wc7.heap.size) (x) rfl rfl 24 0 (Blk.zeroAt _ _ rfl) (by kernel_rfl) ?_; have H109 : Hid (Ds [(wc7.heap.size, wv (x), 24), (w.heap.size + 1, wv (0), 24), (w.heap.size, wv (A), 24)] w ((wc7.alloc (.cells #[.int .u64 0, .int .u64 0, .int .u64 0, .int .u64 0, .int .u64 0, .int .u64 0] 24)).setRow wc7.heap.size (wv (x)))) := Lib.hid ((H108.out.box #[.int .u64 0, .int .u64 0, .int .u64 0, .int .u64 0, .int .u64 0, .int .u64 0] 24 _ rfl).setRow 0 (wv (x)) _ _ _ rfl); clear g3_0 g3_1 H108; have g4_0 : Blk ((wc7.alloc (.cells #[.int .u64 0, .int .u64 0, .int .u64 0, .int .u64 0, .int .u64 0, .int .u64 0] 24)).setRow wc7.heap.size (wv (x))) (wc7.heap.size) (wv (x)) 24 := H109.out.all 0 _ rfl; have g4_1 : Blk ((wc7.alloc (.cells #[.int .u64 0, .int .u64 0, .int .u64 0, .int .u64 0, .int .u64 0, .int .u64 0] 24)).setRow wc7.heap.size (wv (x))) (w.heap.size + 1) (wv (0)) 24 := H109.out.all 1 _ rfl; have g4_2 : Blk ((wc7.alloc (.cells #[.int .u64 0, .int .u64 0, .int .u64 0, .int .u64 0, .int .u64 0, .int .u64 0] 24)).setRow wc7.heap.size (wv (x))) (w.heap.size) (wv (A)) 24 := H109.out.all 2 _ rfl)
    | (refine wpList_store_wv rfl 24 _ _ rfl (w.heap.size + 1) (A) rfl rfl 24 (0) (by with_reducible assumption) (by kernel_rfl) ?_; have H110 : Hid (Ds [(wc7.heap.size, wv (x), 24), (w.heap.size + 1, wv (A), 24), (w.heap.size, wv (A), 24)] w (((wc7.alloc (.cells #[.int .u64 0, .int .u64 0, .int .u64 0, .int .u64 0, .int .u64 0, .int .u64 0] 24)).setRow wc7.heap.size (wv (x))).setRow (w.heap.size + 1) (wv (A)))) := Lib.hid (H109.out.setRow 1 (wv (A)) _ _ _ rfl); clear g4_0 g4_1 g4_2 H109; have g5_0 : Blk (((wc7.alloc (.cells #[.int .u64 0, .int .u64 0, .int .u64 0, .int .u64 0, .int .u64 0, .int .u64 0] 24)).setRow wc7.heap.size (wv (x))).setRow (w.heap.size + 1) (wv (A))) (wc7.heap.size) (wv (x)) 24 := H110.out.all 0 _ rfl; have g5_1 : Blk (((wc7.alloc (.cells #[.int .u64 0, .int .u64 0, .int .u64 0, .int .u64 0, .int .u64 0, .int .u64 0] 24)).setRow wc7.heap.size (wv (x))).setRow (w.heap.size + 1) (wv (A))) (w.heap.size + 1) (wv (A)) 24 := H110.out.all 1 _ rfl; have g5_2 : Blk (((wc7.alloc (.cells #[.int .u64 0, .int .u64 0, .int .u64 0, .int .u64 0, .int .u64 0, .int .u64 0] 24)).setRow wc7.heap.size (wv (x))).setRow (w.heap.size + 1) (wv (A))) (w.heap.size) (wv (A)) 24 := H110.out.all 2 _ rfl))
  refine bodyPost_ret (results_ctt rfl _ _ (w.heap.size + 1) 24 _ _ rfl (H110.out.all 1 _ rfl) Tryd.underlying24 rfl (by rw [wv_size]; kernel_rfl)) rfl ?_
  exact ⟨ret3 rfl (by rfl) (by rfl), H110.out.le⟩
theorem rcut4_big (A : Nat) (n : Int) (hA : A < W384) (hn : 385 < n) (w : World) : Calls Tryd.prog 13 #[.agg (wv (A)), .int .i64 n] w fun e w' => e = .returned (.tuple #[.agg (wv (A / 2 ^ 385)), .int .i64 (-1), .bool (decide (A % 2 ^ 385 = 0))]) ∧ Below w.heap.size w w' := by
  have h384 : A / 2 ^ clamp 385 384 = A / 2 ^ 385 ∧ A % 2 ^ clamp 385 384 = A % 2 ^ 385 := cut_shift (c := 385) hA (by decide)
  obtain ⟨x, hx⟩ : ∃ x, A / 2 ^ 385 = x := ⟨_, rfl⟩
  obtain ⟨z, hz⟩ : ∃ z, decide (A % 2 ^ 385 ≠ 0) = z := ⟨_, rfl⟩
  have hnz : decide (A % 2 ^ 385 = 0) = !z := by rw [← hz]; simp
  rw [hx, hnz]
  have C1 : Hid (∀ W, Calls Tryd.prog 28 #[.agg (wv (A)), .int .i64 385] W fun e w' => e = .returned (.tuple #[.agg (wv x), .bool z]) ∧ Below W.heap.size W w') := Lib.hid fun W => by have := rright2_c A 385 W hA; rwa [h384.1, h384.2, hx, hz] at this
  clear hx hz hA h384 hnz
  have hn2 : ¬ n < 0 := by omega
  go_enter Tryd.func13, Tryd.ntmps13
  have HS0 := Lib.hid ((Ds.nil w).box (wv (A)) 24 (w.heap.size) rfl)
  have g1_0 : Blk (w.alloc (.cells (wv (A)) 24)) (w.heap.size) (wv (A)) 24 := HS0.out.all 0 _ rfl
  have H111 : Hid (Ds [(w.heap.size + 1, wv (0), 24), (w.heap.size, wv (A), 24)] w ((w.alloc (.cells (wv (A)) 24)).alloc (.cells #[.int .u64 0, .int .u64 0, .int .u64 0, .int .u64 0, .int .u64 0, .int .u64 0] 24))) := Lib.hid (HS0.out.zero 24 _ (by simp))
  have g2_0 : Blk ((w.alloc (.cells (wv (A)) 24)).alloc (.cells #[.int .u64 0, .int .u64 0, .int .u64 0, .int .u64 0, .int .u64 0, .int .u64 0] 24)) (w.heap.size + 1) (wv (0)) 24 := H111.out.all 0 _ rfl
  have g2_1 : Blk ((w.alloc (.cells (wv (A)) 24)).alloc (.cells #[.int .u64 0, .int .u64 0, .int .u64 0, .int .u64 0, .int .u64 0, .int .u64 0] 24)) (w.heap.size) (wv (A)) 24 := H111.out.all 1 _ rfl
  go_wp2_with (first
    | (refine wpList_load_wv rfl 24 _ rfl _ rfl 24 _ _ (by with_reducible assumption) Tryd.underlying24 rfl (by kernel_rfl) ?_)
    | (refine wpList_load_wv_g rfl 24 _ rfl _ rfl 24 _ _ (by with_reducible assumption) Tryd.underlying24 rfl (by kernel_rfl) ?_)
    | (go_at_call 28; (with_reducible refine (C1.out _).mono ?_); rintro e wc12 ⟨rfl, bc12⟩; clear C1; have H113 : Hid (Ds [(w.heap.size + 1, wv (0), 24), (w.heap.size, wv (A), 24)] w wc12) := Lib.hid (H111.out.call bc12); clear g1_0 g2_0 g2_1 bc12 H111; have g3_0 : Blk wc12 (w.heap.size + 1) (wv (0)) 24 := H113.out.all 0 _ rfl; have g3_1 : Blk wc12 (w.heap.size) (wv (A)) 24 := H113.out.all 1 _ rfl)
    | (refine wpList_store_wv rfl 24 _ _ rfl (wc12.heap.size) (x) rfl rfl 24 0 (Blk.zeroAt _ _ rfl) (by kernel_rfl) ?_; have H114 : Hid (Ds [(wc12.heap.size, wv (x), 24), (w.heap.size + 1, wv (0), 24), (w.heap.size, wv (A), 24)] w ((wc12.alloc (.cells #[.int .u64 0, .int .u64 0, .int .u64 0, .int .u64 0, .int .u64 0, .int .u64 0] 24)).setRow wc12.heap.size (wv (x)))) := Lib.hid ((H113.out.box #[.int .u64 0, .int .u64 0, .int .u64 0, .int .u64 0, .int .u64 0, .int .u64 0] 24 _ rfl).setRow 0 (wv (x)) _ _ _ rfl); clear g3_0 g3_1 H113; have g4_0 : Blk ((wc12.alloc (.cells #[.int .u64 0, .int .u64 0, .int .u64 0, .int .u64 0, .int .u64 0, .int .u64 0] 24)).setRow wc12.heap.size (wv (x))) (wc12.heap.size) (wv (x)) 24 := H114.out.all 0 _ rfl; have g4_1 : Blk ((wc12.alloc (.cells #[.int .u64 0, .int .u64 0, .int .u64 0, .int .u64 0, .int .u64 0, .int .u64 0] 24)).setRow wc12.heap.size (wv (x))) (w.heap.size + 1) (wv (0)) 24 := H114.out.all 1 _ rfl; have g4_2 : Blk ((wc12.alloc (.cells #[.int .u64 0, .int .u64 0, .int .u64 0, .int .u64 0, .int .u64 0, .int .u64 0] 24)).setRow wc12.heap.size (wv (x))) (w.heap.size) (wv (A)) 24 := H114.out.all 2 _ rfl)
    | (refine wpList_store_wv rfl 24 _ _ rfl (w.heap.size + 1) (x) rfl rfl 24 (0) (by with_reducible assumption) (by kernel_rfl) ?_; have H115 : Hid (Ds [(wc12.heap.size, wv (x), 24), (w.heap.size + 1, wv (x), 24), (w.heap.size, wv (A), 24)] w (((wc12.alloc (.cells #[.int .u64 0, .int .u64 0, .int .u64 0, .int .u64 0, .int .u64 0, .int .u64 0] 24)).setRow wc12.heap.size (wv (x))).setRow (w.heap.size + 1) (wv (x)))) := Lib.hid (H114.out.setRow 1 (wv (x)) _ _ _ rfl); clear g4_0 g4_1 g4_2 H114; have g5_0 : Blk (((wc12.alloc (.cells #[.int .u64 0, .int .u64 0, .int .u64 0, .int .u64 0, .int .u64 0, .int .u64 0] 24)).setRow wc12.heap.size (wv (x))).setRow (w.heap.size + 1) (wv (x))) (wc12.heap.size) (wv (x)) 24 := H115.out.all 0 _ rfl; have g5_1 : Blk (((wc12.alloc (.cells #[.int .u64 0, .int .u64 0, .int .u64 0, .int .u64 0, .int .u64 0, .int .u64 0] 24)).setRow wc12.heap.size (wv (x))).setRow (w.heap.size + 1) (wv (x))) (w.heap.size + 1) (wv (x)) 24 := H115.out.all 1 _ rfl; have g5_2 : Blk (((wc12.alloc (.cells #[.int .u64 0, .int .u64 0, .int .u64 0, .int .u64 0, .int .u64 0, .int .u64 0] 24)).setRow wc12.heap.size (wv (x))).setRow (w.heap.size + 1) (wv (x))) (w.heap.size) (wv (A)) 24 := H115.out.all 2 _ rfl))
  refine bodyPost_ret (results_ctt rfl _ _ (w.heap.size + 1) 24 _ _ rfl (H115.out.all 1 _ rfl) Tryd.underlying24 rfl (by rw [wv_size]; kernel_rfl)) rfl ?_
  exact ⟨ret3 rfl (by rfl) (by rfl), H115.out.le⟩
theorem rcut4_all (A : Nat) (hA : A < W384) (w : World) : Calls Tryd.prog 13 #[.agg (wv (A)), .int .i64 385] w fun e w' => e = .returned (.tuple #[.agg (wv (A / 2 ^ 385)), .int .i64 (-1), .bool (decide (A % 2 ^ 385 = 0))]) ∧ Below w.heap.size w w' := by
  have h384 : A / 2 ^ clamp 385 384 = A / 2 ^ 385 ∧ A % 2 ^ clamp 385 384 = A % 2 ^ 385 := cut_shift (c := 385) hA (by decide)
  obtain ⟨x, hx⟩ : ∃ x, A / 2 ^ 385 = x := ⟨_, rfl⟩
  obtain ⟨z, hz⟩ : ∃ z, decide (A % 2 ^ 385 ≠ 0) = z := ⟨_, rfl⟩
  have hnz : decide (A % 2 ^ 385 = 0) = !z := by rw [← hz]; simp
  rw [hx, hnz]
  have C1 : Hid (∀ W, Calls Tryd.prog 28 #[.agg (wv (A)), .int .i64 385] W fun e w' => e = .returned (.tuple #[.agg (wv x), .bool z]) ∧ Below W.heap.size W w') := Lib.hid fun W => by have := rright2_c A 385 W hA; rwa [h384.1, h384.2, hx, hz] at this
  clear hx hz hA h384 hnz
  go_enter Tryd.func13, Tryd.ntmps13
  have HS0 := Lib.hid ((Ds.nil w).box (wv (A)) 24 (w.heap.size) rfl)
  have g1_0 : Blk (w.alloc (.cells (wv (A)) 24)) (w.heap.size) (wv (A)) 24 := HS0.out.all 0 _ rfl
  have H116 : Hid (Ds [(w.heap.size + 1, wv (0), 24), (w.heap.size, wv (A), 24)] w ((w.alloc (.cells (wv (A)) 24)).alloc (.cells #[.int .u64 0, .int .u64 0, .int .u64 0, .int .u64 0, .int .u64 0, .int .u64 0] 24))) := Lib.hid (HS0.out.zero 24 _ (by simp))
  have g2_0 : Blk ((w.alloc (.cells (wv (A)) 24)).alloc (.cells #[.int .u64 0, .int .u64 0, .int .u64 0, .int .u64 0, .int .u64 0, .int .u64 0] 24)) (w.heap.size + 1) (wv (0)) 24 := H116.out.all 0 _ rfl
  have g2_1 : Blk ((w.alloc (.cells (wv (A)) 24)).alloc (.cells #[.int .u64 0, .int .u64 0, .int .u64 0, .int .u64 0, .int .u64 0, .int .u64 0] 24)) (w.heap.size) (wv (A)) 24 := H116.out.all 1 _ rfl
  go_wp2_with (first
    | (refine wpList_load_wv rfl 24 _ rfl _ rfl 24 _ _ (by with_reducible assumption) Tryd.underlying24 rfl (by kernel_rfl) ?_)
    | (refine wpList_load_wv_g rfl 24 _ rfl _ rfl 24 _ _ (by with_reducible assumption) Tryd.underlying24 rfl (by kernel_rfl) ?_)
    | (go_at_call 28; (with_reducible refine (C1.out _).mono ?_); rintro e wc17 ⟨rfl, bc17⟩; clear C1; have H118 : Hid (Ds [(w.heap.size + 1, wv (0), 24), (w.heap.size, wv (A), 24)] w wc17) := Lib.hid (H116.out.call bc17); clear g1_0 g2_0 g2_1 bc17 H116; have g3_0 : Blk wc17 (w.heap.size + 1) (wv (0)) 24 := H118.out.all 0 _ rfl; have g3_1 : Blk wc17 (w.heap.size) (wv (A)) 24 := H118.out.all 1 _ rfl)
    | (refine wpList_store_wv rfl 24 _ _ rfl (wc17.heap.size) (x) rfl rfl 24 0 (Blk.zeroAt _ _ rfl) (by kernel_rfl) ?_; have H119 : Hid (Ds [(wc17.heap.size, wv (x), 24), (w.heap.size + 1, wv (0), 24), (w.heap.size, wv (A), 24)] w ((wc17.alloc (.cells #[.int .u64 0, .int .u64 0, .int .u64 0, .int .u64 0, .int .u64 0, .int .u64 0] 24)).setRow wc17.heap.size (wv (x)))) := Lib.hid ((H118.out.box #[.int .u64 0, .int .u64 0, .int .u64 0, .int .u64 0, .int .u64 0, .int .u64 0] 24 _ rfl).setRow 0 (wv (x)) _ _ _ rfl); clear g3_0 g3_1 H118; have g4_0 : Blk ((wc17.alloc (.cells #[.int .u64 0, .int .u64 0, .int .u64 0, .int .u64 0, .int .u64 0, .int .u64 0] 24)).setRow wc17.heap.size (wv (x))) (wc17.heap.size) (wv (x)) 24 := H119.out.all 0 _ rfl; have g4_1 : Blk ((wc17.alloc (.cells #[.int .u64 0, .int .u64 0, .int .u64 0, .int .u64 0, .int .u64 0, .int .u64 0] 24)).setRow wc17.heap.size (wv (x))) (w.heap.size + 1) (wv (0)) 24 := H119.out.all 1 _ rfl; have g4_2 : Blk ((wc17.alloc (.cells #[.int .u64 0, .int .u64 0, .int .u64 0, .int .u64 0, .int .u64 0, .int .u64 0] 24)).setRow wc17.heap.size (wv (x))) (w.heap.size) (wv (A)) 24 := H119.out.all 2 _ rfl)
    | (refine wpList_store_wv rfl 24 _ _ rfl (w.heap.size + 1) (x) rfl rfl 24 (0) (by with_reducible assumption) (by kernel_rfl) ?_; have H120 : Hid (Ds [(wc17.heap.size, wv (x), 24), (w.heap.size + 1, wv (x), 24), (w.heap.size, wv (A), 24)] w (((wc17.alloc (.cells #[.int .u64 0, .int .u64 0, .int .u64 0, .int .u64 0, .int .u64 0, .int .u64 0] 24)).setRow wc17.heap.size (wv (x))).setRow (w.heap.size + 1) (wv (x)))) := Lib.hid (H119.out.setRow 1 (wv (x)) _ _ _ rfl); clear g4_0 g4_1 g4_2 H119; have g5_0 : Blk (((wc17.alloc (.cells #[.int .u64 0, .int .u64 0, .int .u64 0, .int .u64 0, .int .u64 0, .int .u64 0] 24)).setRow wc17.heap.size (wv (x))).setRow (w.heap.size + 1) (wv (x))) (wc17.heap.size) (wv (x)) 24 := H120.out.all 0 _ rfl; have g5_1 : Blk (((wc17.alloc (.cells #[.int .u64 0, .int .u64 0, .int .u64 0, .int .u64 0, .int .u64 0, .int .u64 0] 24)).setRow wc17.heap.size (wv (x))).setRow (w.heap.size + 1) (wv (x))) (w.heap.size + 1) (wv (x)) 24 := H120.out.all 1 _ rfl; have g5_2 : Blk (((wc17.alloc (.cells #[.int .u64 0, .int .u64 0, .int .u64 0, .int .u64 0, .int .u64 0, .int .u64 0] 24)).setRow wc17.heap.size (wv (x))).setRow (w.heap.size + 1) (wv (x))) (w.heap.size) (wv (A)) 24 := H120.out.all 2 _ rfl))
  refine bodyPost_ret (results_ctt rfl _ _ (w.heap.size + 1) 24 _ _ rfl (H120.out.all 1 _ rfl) Tryd.underlying24 rfl (by rw [wv_size]; kernel_rfl)) rfl ?_
  exact ⟨ret3 rfl (by rfl) (by rfl), H120.out.le⟩
theorem rcut4_a (A : Nat) (c : Nat) (hA : A < W384) (h0 : 0 < c) (h1 : c < 385) (ht : A.testBit (c - 1) = false) (w : World) : Calls Tryd.prog 13 #[.agg (wv (A)), .int .i64 (c : Nat)] w fun e w' => e = .returned (.tuple #[.agg (wv (A / 2 ^ c)), .int .i64 (cutH A c), .bool (decide (A % 2 ^ c = 0))]) ∧ Below w.heap.size w w' := by
  obtain ⟨d, hd⟩ : ∃ d, c - 1 = d := ⟨_, rfl⟩
  have KD : (c : Int) - 1 = (d : Int) := by omega
  have KW : IntKind.i64.wrap ((c : Int) - 1) = (d : Int) := by rw [KD, IntKind.wrap_i64]; omega
  have G1 : ¬ (c : Int) < 0 := by omega
  have G2 : ¬ 385 < (c : Int) := by omega
  have G3 : ((c : Int) == 0) = false := by rw [beq_eq_false_iff_ne]; omega
  have G4 : ((c : Int) == 385) = false := by rw [beq_eq_false_iff_ne]; omega
  have l384 := cut_shift (c := c) hA (by omega)
  obtain ⟨x, hx⟩ : ∃ x, A / 2 ^ c = x := ⟨_, rfl⟩
  obtain ⟨z, hz⟩ : ∃ z, decide (A % 2 ^ c ≠ 0) = z := ⟨_, rfl⟩
  have hnz : decide (A % 2 ^ c = 0) = !z := by rw [← hz]; simp
  rw [hx, hnz]
  have lr : A % 2 ^ d < W384 := Nat.lt_of_le_of_lt (Nat.mod_le _ _) hA
  have hm : Tryd.prog.eqGuardType Tryd.prog.depth 24 = false := by kernel_rfl
  have hcut : cutH A c = (if A.testBit d = false then -1 else if A % 2 ^ d = 0 then 0 else 1) := by
    unfold cutH
    rw [hd]
    by_cases ht : A.testBit d = false
    · rw [if_pos (Or.inr (Or.inr ht)), if_pos ht]
    · rw [if_neg (fun h => by rcases h with h | h | h <;> first | omega | exact ht h), if_neg ht]
  obtain ⟨r, hr⟩ : ∃ r, A % 2 ^ d = r := ⟨_, rfl⟩
  rw [hr] at hcut lr
  rw [hd] at ht
  have HH : Hid (cutH A c = -1) := Lib.hid (hcut.trans (if_pos ht))
  have C1 : Hid (∀ W, Calls Tryd.prog 28 #[.agg (wv (A)), .int .i64 (c : Nat)] W fun e w' => e = .returned (.tuple #[.agg (wv x), .bool z]) ∧ Below W.heap.size W w') := Lib.hid fun W => by have := rright2_c A c W hA; rwa [l384.1, l384.2, hx, hz] at this
  have C2 : Hid (∀ W, Calls Tryd.prog 34 #[.agg (wv (A)), .int .i64 (d : Nat)] W fun e w' => e = .returned (.bool false) ∧ Below W.heap.size W w') := Lib.hid fun W => by have := rbit2_c A d W; rwa [bitW_nat A d (by omega), ht] at this
  have C3 : Hid (∀ W, Calls Tryd.prog 36 #[.int .i64 (d : Nat)] W fun e w' => e = .returned (.agg (wv (maskN d))) ∧ Below W.heap.size W w') := Lib.hid fun W => by have := rmask2_c d W; rwa [show clamp (d : Int) 384 = d by unfold clamp; omega] at this
  have C4 : Hid (∀ W, Calls Tryd.prog 38 #[.agg (wv (A)), .agg (wv (maskN d))] W fun e w' => e = .returned (.agg (wv (r))) ∧ Below W.heap.size W w') := Lib.hid fun W => by have := rand2_c A (maskN d) W; rwa [and_mask, hr] at this
  clear hd l384 hx hz hnz lr hcut hr h0 h1 ht hA
  go_enter Tryd.func13, Tryd.ntmps13
  have HS0 := Lib.hid ((Ds.nil w).box (wv (A)) 24 (w.heap.size) rfl)
  have g1_0 : Blk (w.alloc (.cells (wv (A)) 24)) (w.heap.size) (wv (A)) 24 := HS0.out.all 0 _ rfl
  have H121 : Hid (Ds [(w.heap.size + 1, wv (0), 24), (w.heap.size, wv (A), 24)] w ((w.alloc (.cells (wv (A)) 24)).alloc (.cells #[.int .u64 0, .int .u64 0, .int .u64 0, .int .u64 0, .int .u64 0, .int .u64 0] 24))) := Lib.hid (HS0.out.zero 24 _ (by simp))
  have g2_0 : Blk ((w.alloc (.cells (wv (A)) 24)).alloc (.cells #[.int .u64 0, .int .u64 0, .int .u64 0, .int .u64 0, .int .u64 0, .int .u64 0] 24)) (w.heap.size + 1) (wv (0)) 24 := H121.out.all 0 _ rfl
  have g2_1 : Blk ((w.alloc (.cells (wv (A)) 24)).alloc (.cells #[.int .u64 0, .int .u64 0, .int .u64 0, .int .u64 0, .int .u64 0, .int .u64 0] 24)) (w.heap.size) (wv (A)) 24 := H121.out.all 1 _ rfl
  go_wp2_with (first
    | (refine wpList_load_wv rfl 24 _ rfl _ rfl 24 _ _ (by with_reducible assumption) Tryd.underlying24 rfl (by kernel_rfl) ?_)
    | (refine wpList_load_wv_g rfl 24 _ rfl _ rfl 24 _ _ (by with_reducible assumption) Tryd.underlying24 rfl (by kernel_rfl) ?_)
    | (go_at_call 28; (with_reducible refine (C1.out _).mono ?_); rintro e wc22 ⟨rfl, bc22⟩; clear C1; have H123 : Hid (Ds [(w.heap.size + 1, wv (0), 24), (w.heap.size, wv (A), 24)] w wc22) := Lib.hid (H121.out.call bc22); clear g1_0 g2_0 g2_1 bc22 H121; have g3_0 : Blk wc22 (w.heap.size + 1) (wv (0)) 24 := H123.out.all 0 _ rfl; have g3_1 : Blk wc22 (w.heap.size) (wv (A)) 24 := H123.out.all 1 _ rfl)
    | (refine wpList_store_wv rfl 24 _ _ rfl (wc22.heap.size) (x) rfl rfl 24 0 (Blk.zeroAt _ _ rfl) (by kernel_rfl) ?_; have H124 : Hid (Ds [(wc22.heap.size, wv (x), 24), (w.heap.size + 1, wv (0), 24), (w.heap.size, wv (A), 24)] w ((wc22.alloc (.cells #[.int .u64 0, .int .u64 0, .int .u64 0, .int .u64 0, .int .u64 0, .int .u64 0] 24)).setRow wc22.heap.size (wv (x)))) := Lib.hid ((H123.out.box #[.int .u64 0, .int .u64 0, .int .u64 0, .int .u64 0, .int .u64 0, .int .u64 0] 24 _ rfl).setRow 0 (wv (x)) _ _ _ rfl); clear g3_0 g3_1 H123; have g4_0 : Blk ((wc22.alloc (.cells #[.int .u64 0, .int .u64 0, .int .u64 0, .int .u64 0, .int .u64 0, .int .u64 0] 24)).setRow wc22.heap.size (wv (x))) (wc22.heap.size) (wv (x)) 24 := H124.out.all 0 _ rfl; have g4_1 : Blk ((wc22.alloc (.cells #[.int .u64 0, .int .u64 0, .int .u64 0, .int .u64 0, .int .u64 0, .int .u64 0] 24)).setRow wc22.heap.size (wv (x))) (w.heap.size + 1) (wv (0)) 24 := H124.out.all 1 _ rfl; have g4_2 : Blk ((wc22.alloc (.cells #[.int .u64 0, .int .u64 0, .int .u64 0, .int .u64 0, .int .u64 0, .int .u64 0] 24)).setRow wc22.heap.size (wv (x))) (w.heap.size) (wv (A)) 24 := H124.out.all 2 _ rfl)
    | (go_at_call 34; (with_reducible refine (C2.out _).mono ?_); rintro e wc25 ⟨rfl, bc25⟩; clear C2; have H126 : Hid (Ds [(wc22.heap.size, wv (x), 24), (w.heap.size + 1, wv (0), 24), (w.heap.size, wv (A), 24)] w wc25) := Lib.hid (H124.out.call bc25); clear g4_0 g4_1 g4_2 bc25 H124; have g5_0 : Blk wc25 (wc22.heap.size) (wv (x)) 24 := H126.out.all 0 _ rfl; have g5_1 : Blk wc25 (w.heap.size + 1) (wv (0)) 24 := H126.out.all 1 _ rfl; have g5_2 : Blk wc25 (w.heap.size) (wv (A)) 24 := H126.out.all 2 _ rfl))
  try simp only [Act.put]
  refine wp_region_alloc (l1 := [_, _, _, _, _]) (l2 := [_]) (fun S w' => Ds [(wc22.heap.size, wv (x), 24), (w.heap.size + 1, wv (0), 24), (w.heap.size, wv (A), 24)] w w') (fun b S w' => Ds ((b, if S 6 = true then wv r else wv 0, 24) :: [(wc22.heap.size, wv (x), 24), (w.heap.size + 1, wv (0), 24), (w.heap.size, wv (A), 24)]) w w') (by kernel_rfl) (by kernel_rfl) (by kernel_rfl) (H126.out.drew) ?_
  refine ⟨.agg (wv A), ⟨stepOk_load_blk rfl (fun _ _ _ h => h) 24 _ rfl (w.heap.size) rfl 24 (wv A) _ (fun S w' h3 => h3.2.all 2 _ rfl) Tryd.underlying24 rfl (by first | (rw [wv_size]; kernel_rfl) | kernel_rfl), fun b => stepOk_load_blk rfl (fun _ _ _ h => h) 24 _ rfl (w.heap.size) rfl 24 (wv A) _ (fun S w' h3 => h3.2.all 3 _ rfl) Tryd.underlying24 rfl (by first | (rw [wv_size]; kernel_rfl) | kernel_rfl)⟩, ?_⟩
  simp only [Act.put, List.setIfInBounds_toArray, List.set_cons_succ, List.set_cons_zero]
  refine ⟨.int .i64 (c : Nat), ⟨stepOk_pure rfl (fun _ _ _ h => h) (fun _ => rfl), fun b => stepOk_pure rfl (fun _ _ _ h => h) (fun _ => rfl)⟩, ?_⟩
  simp only [Act.put, List.setIfInBounds_toArray, List.set_cons_succ, List.set_cons_zero]
  refine ⟨.int .i64 (IntKind.i64.wrap ((c : Int) - 1)), ⟨stepOk_pure rfl (fun _ _ _ h => h) (fun _ => rfl), fun b => stepOk_pure rfl (fun _ _ _ h => h) (fun _ => rfl)⟩, ?_⟩
  simp only [Act.put, List.setIfInBounds_toArray, List.set_cons_succ, List.set_cons_zero]
  rw [KW]
  refine ⟨.agg (wv (maskN d)), ⟨stepOk_call rfl 36 _ _ rfl Tryd.f36 Tryd.func36 (by kernel_rfl) (by kernel_rfl) [.int .i64 (d : Nat)] rfl (fun S w' h1 h3 => (C3.out _).mono fun e w'' ⟨he, hb⟩ => ⟨he, h3.1, h3.2.call hb⟩), fun b => stepOk_call rfl 36 _ _ rfl Tryd.f36 Tryd.func36 (by kernel_rfl) (by kernel_rfl) [.int .i64 (d : Nat)] rfl (fun S w' h1 h3 => (C3.out _).mono fun e w'' ⟨he, hb⟩ => ⟨he, h3.1, h3.2.call hb⟩)⟩, ?_⟩
  simp only [Act.put, List.setIfInBounds_toArray, List.set_cons_succ, List.set_cons_zero]
  refine ⟨.agg (wv r), ⟨stepOk_call rfl 38 _ _ rfl Tryd.f38 Tryd.func38 (by kernel_rfl) (by kernel_rfl) [.agg (wv A), .agg (wv (maskN d))] rfl (fun S w' h1 h3 => (C4.out _).mono fun e w'' ⟨he, hb⟩ => ⟨he, h3.1, h3.2.call hb⟩), fun b => stepOk_call rfl 38 _ _ rfl Tryd.f38 Tryd.func38 (by kernel_rfl) (by kernel_rfl) [.agg (wv A), .agg (wv (maskN d))] rfl (fun S w' h1 h3 => (C4.out _).mono fun e w'' ⟨he, hb⟩ => ⟨he, h3.1, h3.2.call hb⟩)⟩, ?_⟩
  simp only [Act.put, List.setIfInBounds_toArray, List.set_cons_succ, List.set_cons_zero]
  refine ⟨rfl, fun S w' h1 hcl h3 => ?_, fun b => ?_⟩
  · have hS6 : S 6 = false := by
      cases h6 : S 6
      · rfl
      · have := hcl.chain 8 6 5 (by kernel_rfl) h6
        rw [show S 5 = false from h1] at this; cases this
    refine ⟨rfl, ?_⟩
    show Ds ((w'.heap.size, if S 6 = true then wv r else wv 0, 24) :: [(wc22.heap.size, wv (x), 24), (w.heap.size + 1, wv (0), 24), (w.heap.size, wv (A), 24)]) w _
    rw [hS6]
    exact h3.zero 24 _ rfl
  · simp only [Act.put, List.setIfInBounds_toArray, List.set_cons_succ, List.set_cons_zero]
    refine sets_store_blk rfl 24 _ _ rfl rfl b (wv r) rfl rfl 24 (by first | (rw [wv_size]; kernel_rfl) | kernel_rfl) (wv_one _) (fun S w' h1 hcl h2 h3 => ?_) ?_
    · exact ⟨⟨_, h3.2.all 0 _ rfl, by split <;> simp only [wv_size]⟩, h3.1, h3.2.setRow 0 (wv r) b _ 24 rfl⟩
    · intro S wq hS hI
      have hI2 : Ds ((b, wv r, 24) :: [(wc22.heap.size, wv (x), 24), (w.heap.size + 1, wv (0), 24), (w.heap.size, wv (A), 24)]) w wq := by
        have h6 : S 6 = true := hS 6 (by decide)
        have hI3 : Ds ((b, if S 6 = true then wv r else wv 0, 24) :: [(wc22.heap.size, wv (x), 24), (w.heap.size + 1, wv (0), 24), (w.heap.size, wv (A), 24)]) w wq := hI
        rw [h6] at hI3; exact hI3
      have HQ := Lib.hid hI2
      clear hI hI2
      have g1_0 : Blk wq (b) (wv (r)) 24 := HQ.out.all 0 _ rfl
      have g1_1 : Blk wq (wc22.heap.size) (wv (x)) 24 := HQ.out.all 1 _ rfl
      have g1_2 : Blk wq (w.heap.size + 1) (wv (0)) 24 := HQ.out.all 2 _ rfl
      have g1_3 : Blk wq (w.heap.size) (wv (A)) 24 := HQ.out.all 3 _ rfl
      go_wp2_with (first
        | (refine wpList_load_wv rfl 24 _ rfl _ rfl 24 _ _ (by with_reducible assumption) Tryd.underlying24 rfl (by kernel_rfl) ?_)
        | (refine wpList_load_wv_g rfl 24 _ rfl _ rfl 24 _ _ (by with_reducible assumption) Tryd.underlying24 rfl (by kernel_rfl) ?_)
        | (refine wpList_store_wv rfl 24 _ _ rfl (w.heap.size + 1) (x) rfl rfl 24 (0) (by with_reducible assumption) (by kernel_rfl) ?_; have H127 : Hid (Ds [(b, wv (r), 24), (wc22.heap.size, wv (x), 24), (w.heap.size + 1, wv (x), 24), (w.heap.size, wv (A), 24)] w (wq.setRow (w.heap.size + 1) (wv (x)))) := Lib.hid (HQ.out.setRow 2 (wv (x)) _ _ _ rfl); clear g1_0 g1_1 g1_2 g1_3 HQ; have g2_0 : Blk (wq.setRow (w.heap.size + 1) (wv (x))) (b) (wv (r)) 24 := H127.out.all 0 _ rfl; have g2_1 : Blk (wq.setRow (w.heap.size + 1) (wv (x))) (wc22.heap.size) (wv (x)) 24 := H127.out.all 1 _ rfl; have g2_2 : Blk (wq.setRow (w.heap.size + 1) (wv (x))) (w.heap.size + 1) (wv (x)) 24 := H127.out.all 2 _ rfl; have g2_3 : Blk (wq.setRow (w.heap.size + 1) (wv (x))) (w.heap.size) (wv (A)) 24 := H127.out.all 3 _ rfl))
      refine bodyPost_ret (results_ctt rfl _ _ (w.heap.size + 1) 24 _ _ rfl (H127.out.all 2 _ rfl) Tryd.underlying24 rfl (by rw [wv_size]; kernel_rfl)) rfl ?_
      exact ⟨ret3 rfl (by rw [HH.out]; try rfl) (by rfl), H127.out.le⟩
theorem rcut4_b (A : Nat) (c : Nat) (hA : A < W384) (h0 : 0 < c) (h1 : c < 385) (ht : A.testBit (c - 1) = true) (hr0 : A % 2 ^ (c - 1) = 0) (w : World) : Calls Tryd.prog 13 #[.agg (wv (A)), .int .i64 (c : Nat)] w fun e w' => e = .returned (.tuple #[.agg (wv (A / 2 ^ c)), .int .i64 (cutH A c), .bool (decide (A % 2 ^ c = 0))]) ∧ Below w.heap.size w w' := by
  obtain ⟨d, hd⟩ : ∃ d, c - 1 = d := ⟨_, rfl⟩
  have KD : (c : Int) - 1 = (d : Int) := by omega
  have KW : IntKind.i64.wrap ((c : Int) - 1) = (d : Int) := by rw [KD, IntKind.wrap_i64]; omega
  have G1 : ¬ (c : Int) < 0 := by omega
  have G2 : ¬ 385 < (c : Int) := by omega
  have G3 : ((c : Int) == 0) = false := by rw [beq_eq_false_iff_ne]; omega
  have G4 : ((c : Int) == 385) = false := by rw [beq_eq_false_iff_ne]; omega
  have l384 := cut_shift (c := c) hA (by omega)
  obtain ⟨x, hx⟩ : ∃ x, A / 2 ^ c = x := ⟨_, rfl⟩
  obtain ⟨z, hz⟩ : ∃ z, decide (A % 2 ^ c ≠ 0) = z := ⟨_, rfl⟩
  have hnz : decide (A % 2 ^ c = 0) = !z := by rw [← hz]; simp
  rw [hx, hnz]
  have lr : A % 2 ^ d < W384 := Nat.lt_of_le_of_lt (Nat.mod_le _ _) hA
  have hm : Tryd.prog.eqGuardType Tryd.prog.depth 24 = false := by kernel_rfl
  have hcut : cutH A c = (if A.testBit d = false then -1 else if A % 2 ^ d = 0 then 0 else 1) := by
    unfold cutH
    rw [hd]
    by_cases ht : A.testBit d = false
    · rw [if_pos (Or.inr (Or.inr ht)), if_pos ht]
    · rw [if_neg (fun h => by rcases h with h | h | h <;> first | omega | exact ht h), if_neg ht]
  obtain ⟨r, hr⟩ : ∃ r, A % 2 ^ d = r := ⟨_, rfl⟩
  rw [hr] at hcut lr
  rw [hd] at ht
  rw [hd, hr] at hr0
  have HH : Hid (cutH A c = 0) := Lib.hid (hcut.trans (by rw [if_neg (by rw [ht]; decide), if_pos hr0]))
  have q0 : ∀ w, (binOp .neq 24 (.agg (wv r)) (.agg #[.int .u64 0, .int .u64 0, .int .u64 0, .int .u64 0, .int .u64 0, .int .u64 0])).run Tryd.prog w = .ok (.bool false) w := fun w => by
    rw [← wv_zero]
    have := run_neq_wv Tryd.underlying24 Tryd.underlying22 (by kernel_rfl) r 0 lr W384_pos w
    rwa [decide_eq_true hr0] at this
  have C1 : Hid (∀ W, Calls Tryd.prog 28 #[.agg (wv (A)), .int .i64 (c : Nat)] W fun e w' => e = .returned (.tuple #[.agg (wv x), .bool z]) ∧ Below W.heap.size W w') := Lib.hid fun W => by have := rright2_c A c W hA; rwa [l384.1, l384.2, hx, hz] at this
  have C2 : Hid (∀ W, Calls Tryd.prog 34 #[.agg (wv (A)), .int .i64 (d : Nat)] W fun e w' => e = .returned (.bool true) ∧ Below W.heap.size W w') := Lib.hid fun W => by have := rbit2_c A d W; rwa [bitW_nat A d (by omega), ht] at this
  have C3 : Hid (∀ W, Calls Tryd.prog 36 #[.int .i64 (d : Nat)] W fun e w' => e = .returned (.agg (wv (maskN d))) ∧ Below W.heap.size W w') := Lib.hid fun W => by have := rmask2_c d W; rwa [show clamp (d : Int) 384 = d by unfold clamp; omega] at this
  have C4 : Hid (∀ W, Calls Tryd.prog 38 #[.agg (wv (A)), .agg (wv (maskN d))] W fun e w' => e = .returned (.agg (wv (r))) ∧ Below W.heap.size W w') := Lib.hid fun W => by have := rand2_c A (maskN d) W; rwa [and_mask, hr] at this
  clear hd l384 hx hz hnz lr hcut hr h0 h1 ht hA hr0
  go_enter Tryd.func13, Tryd.ntmps13
  have HS0 := Lib.hid ((Ds.nil w).box (wv (A)) 24 (w.heap.size) rfl)
  have g1_0 : Blk (w.alloc (.cells (wv (A)) 24)) (w.heap.size) (wv (A)) 24 := HS0.out.all 0 _ rfl
  have H128 : Hid (Ds [(w.heap.size + 1, wv (0), 24), (w.heap.size, wv (A), 24)] w ((w.alloc (.cells (wv (A)) 24)).alloc (.cells #[.int .u64 0, .int .u64 0, .int .u64 0, .int .u64 0, .int .u64 0, .int .u64 0] 24))) := Lib.hid (HS0.out.zero 24 _ (by simp))
  have g2_0 : Blk ((w.alloc (.cells (wv (A)) 24)).alloc (.cells #[.int .u64 0, .int .u64 0, .int .u64 0, .int .u64 0, .int .u64 0, .int .u64 0] 24)) (w.heap.size + 1) (wv (0)) 24 := H128.out.all 0 _ rfl
  have g2_1 : Blk ((w.alloc (.cells (wv (A)) 24)).alloc (.cells #[.int .u64 0, .int .u64 0, .int .u64 0, .int .u64 0, .int .u64 0, .int .u64 0] 24)) (w.heap.size) (wv (A)) 24 := H128.out.all 1 _ rfl
  go_wp2_with (first
    | (refine wpList_load_wv rfl 24 _ rfl _ rfl 24 _ _ (by with_reducible assumption) Tryd.underlying24 rfl (by kernel_rfl) ?_)
    | (refine wpList_load_wv_g rfl 24 _ rfl _ rfl 24 _ _ (by with_reducible assumption) Tryd.underlying24 rfl (by kernel_rfl) ?_)
    | (go_at_call 28; (with_reducible refine (C1.out _).mono ?_); rintro e wc29 ⟨rfl, bc29⟩; clear C1; have H130 : Hid (Ds [(w.heap.size + 1, wv (0), 24), (w.heap.size, wv (A), 24)] w wc29) := Lib.hid (H128.out.call bc29); clear g1_0 g2_0 g2_1 bc29 H128; have g3_0 : Blk wc29 (w.heap.size + 1) (wv (0)) 24 := H130.out.all 0 _ rfl; have g3_1 : Blk wc29 (w.heap.size) (wv (A)) 24 := H130.out.all 1 _ rfl)
    | (refine wpList_store_wv rfl 24 _ _ rfl (wc29.heap.size) (x) rfl rfl 24 0 (Blk.zeroAt _ _ rfl) (by kernel_rfl) ?_; have H131 : Hid (Ds [(wc29.heap.size, wv (x), 24), (w.heap.size + 1, wv (0), 24), (w.heap.size, wv (A), 24)] w ((wc29.alloc (.cells #[.int .u64 0, .int .u64 0, .int .u64 0, .int .u64 0, .int .u64 0, .int .u64 0] 24)).setRow wc29.heap.size (wv (x)))) := Lib.hid ((H130.out.box #[.int .u64 0, .int .u64 0, .int .u64 0, .int .u64 0, .int .u64 0, .int .u64 0] 24 _ rfl).setRow 0 (wv (x)) _ _ _ rfl); clear g3_0 g3_1 H130; have g4_0 : Blk ((wc29.alloc (.cells #[.int .u64 0, .int .u64 0, .int .u64 0, .int .u64 0, .int .u64 0, .int .u64 0] 24)).setRow wc29.heap.size (wv (x))) (wc29.heap.size) (wv (x)) 24 := H131.out.all 0 _ rfl; have g4_1 : Blk ((wc29.alloc (.cells #[.int .u64 0, .int .u64 0, .int .u64 0, .int .u64 0, .int .u64 0, .int .u64 0] 24)).setRow wc29.heap.size (wv (x))) (w.heap.size + 1) (wv (0)) 24 := H131.out.all 1 _ rfl; have g4_2 : Blk ((wc29.alloc (.cells #[.int .u64 0, .int .u64 0, .int .u64 0, .int .u64 0, .int .u64 0, .int .u64 0] 24)).setRow wc29.heap.size (wv (x))) (w.heap.size) (wv (A)) 24 := H131.out.all 2 _ rfl)
    | (go_at_call 34; (with_reducible refine (C2.out _).mono ?_); rintro e wc32 ⟨rfl, bc32⟩; clear C2; have H133 : Hid (Ds [(wc29.heap.size, wv (x), 24), (w.heap.size + 1, wv (0), 24), (w.heap.size, wv (A), 24)] w wc32) := Lib.hid (H131.out.call bc32); clear g4_0 g4_1 g4_2 bc32 H131; have g5_0 : Blk wc32 (wc29.heap.size) (wv (x)) 24 := H133.out.all 0 _ rfl; have g5_1 : Blk wc32 (w.heap.size + 1) (wv (0)) 24 := H133.out.all 1 _ rfl; have g5_2 : Blk wc32 (w.heap.size) (wv (A)) 24 := H133.out.all 2 _ rfl))
  try simp only [Act.put]
  refine wp_region_alloc (l1 := [_, _, _, _, _]) (l2 := [_]) (fun S w' => Ds [(wc29.heap.size, wv (x), 24), (w.heap.size + 1, wv (0), 24), (w.heap.size, wv (A), 24)] w w') (fun b S w' => Ds ((b, if S 6 = true then wv r else wv 0, 24) :: [(wc29.heap.size, wv (x), 24), (w.heap.size + 1, wv (0), 24), (w.heap.size, wv (A), 24)]) w w') (by kernel_rfl) (by kernel_rfl) (by kernel_rfl) (H133.out.drew) ?_
  refine ⟨.agg (wv A), ⟨stepOk_load_blk rfl (fun _ _ _ h => h) 24 _ rfl (w.heap.size) rfl 24 (wv A) _ (fun S w' h3 => h3.2.all 2 _ rfl) Tryd.underlying24 rfl (by first | (rw [wv_size]; kernel_rfl) | kernel_rfl), fun b => stepOk_load_blk rfl (fun _ _ _ h => h) 24 _ rfl (w.heap.size) rfl 24 (wv A) _ (fun S w' h3 => h3.2.all 3 _ rfl) Tryd.underlying24 rfl (by first | (rw [wv_size]; kernel_rfl) | kernel_rfl)⟩, ?_⟩
  simp only [Act.put, List.setIfInBounds_toArray, List.set_cons_succ, List.set_cons_zero]
  refine ⟨.int .i64 (c : Nat), ⟨stepOk_pure rfl (fun _ _ _ h => h) (fun _ => rfl), fun b => stepOk_pure rfl (fun _ _ _ h => h) (fun _ => rfl)⟩, ?_⟩
  simp only [Act.put, List.setIfInBounds_toArray, List.set_cons_succ, List.set_cons_zero]
  refine ⟨.int .i64 (IntKind.i64.wrap ((c : Int) - 1)), ⟨stepOk_pure rfl (fun _ _ _ h => h) (fun _ => rfl), fun b => stepOk_pure rfl (fun _ _ _ h => h) (fun _ => rfl)⟩, ?_⟩
  simp only [Act.put, List.setIfInBounds_toArray, List.set_cons_succ, List.set_cons_zero]
  rw [KW]
  refine ⟨.agg (wv (maskN d)), ⟨stepOk_call rfl 36 _ _ rfl Tryd.f36 Tryd.func36 (by kernel_rfl) (by kernel_rfl) [.int .i64 (d : Nat)] rfl (fun S w' h1 h3 => (C3.out _).mono fun e w'' ⟨he, hb⟩ => ⟨he, h3.1, h3.2.call hb⟩), fun b => stepOk_call rfl 36 _ _ rfl Tryd.f36 Tryd.func36 (by kernel_rfl) (by kernel_rfl) [.int .i64 (d : Nat)] rfl (fun S w' h1 h3 => (C3.out _).mono fun e w'' ⟨he, hb⟩ => ⟨he, h3.1, h3.2.call hb⟩)⟩, ?_⟩
  simp only [Act.put, List.setIfInBounds_toArray, List.set_cons_succ, List.set_cons_zero]
  refine ⟨.agg (wv r), ⟨stepOk_call rfl 38 _ _ rfl Tryd.f38 Tryd.func38 (by kernel_rfl) (by kernel_rfl) [.agg (wv A), .agg (wv (maskN d))] rfl (fun S w' h1 h3 => (C4.out _).mono fun e w'' ⟨he, hb⟩ => ⟨he, h3.1, h3.2.call hb⟩), fun b => stepOk_call rfl 38 _ _ rfl Tryd.f38 Tryd.func38 (by kernel_rfl) (by kernel_rfl) [.agg (wv A), .agg (wv (maskN d))] rfl (fun S w' h1 h3 => (C4.out _).mono fun e w'' ⟨he, hb⟩ => ⟨he, h3.1, h3.2.call hb⟩)⟩, ?_⟩
  simp only [Act.put, List.setIfInBounds_toArray, List.set_cons_succ, List.set_cons_zero]
  refine ⟨rfl, fun S w' h1 hcl h3 => ?_, fun b => ?_⟩
  · have hS6 : S 6 = false := by
      cases h6 : S 6
      · rfl
      · have := hcl.chain 8 6 5 (by kernel_rfl) h6
        rw [show S 5 = false from h1] at this; cases this
    refine ⟨rfl, ?_⟩
    show Ds ((w'.heap.size, if S 6 = true then wv r else wv 0, 24) :: [(wc29.heap.size, wv (x), 24), (w.heap.size + 1, wv (0), 24), (w.heap.size, wv (A), 24)]) w _
    rw [hS6]
    exact h3.zero 24 _ rfl
  · simp only [Act.put, List.setIfInBounds_toArray, List.set_cons_succ, List.set_cons_zero]
    refine sets_store_blk rfl 24 _ _ rfl rfl b (wv r) rfl rfl 24 (by first | (rw [wv_size]; kernel_rfl) | kernel_rfl) (wv_one _) (fun S w' h1 hcl h2 h3 => ?_) ?_
    · exact ⟨⟨_, h3.2.all 0 _ rfl, by split <;> simp only [wv_size]⟩, h3.1, h3.2.setRow 0 (wv r) b _ 24 rfl⟩
    · intro S wq hS hI
      have hI2 : Ds ((b, wv r, 24) :: [(wc29.heap.size, wv (x), 24), (w.heap.size + 1, wv (0), 24), (w.heap.size, wv (A), 24)]) w wq := by
        have h6 : S 6 = true := hS 6 (by decide)
        have hI3 : Ds ((b, if S 6 = true then wv r else wv 0, 24) :: [(wc29.heap.size, wv (x), 24), (w.heap.size + 1, wv (0), 24), (w.heap.size, wv (A), 24)]) w wq := hI
        rw [h6] at hI3; exact hI3
      have HQ := Lib.hid hI2
      clear hI hI2
      have g1_0 : Blk wq (b) (wv (r)) 24 := HQ.out.all 0 _ rfl
      have g1_1 : Blk wq (wc29.heap.size) (wv (x)) 24 := HQ.out.all 1 _ rfl
      have g1_2 : Blk wq (w.heap.size + 1) (wv (0)) 24 := HQ.out.all 2 _ rfl
      have g1_3 : Blk wq (w.heap.size) (wv (A)) 24 := HQ.out.all 3 _ rfl
      go_wp2_with (first
        | (refine wpList_load_wv rfl 24 _ rfl _ rfl 24 _ _ (by with_reducible assumption) Tryd.underlying24 rfl (by kernel_rfl) ?_)
        | (refine wpList_load_wv_g rfl 24 _ rfl _ rfl 24 _ _ (by with_reducible assumption) Tryd.underlying24 rfl (by kernel_rfl) ?_)
        | (refine wpList_store_wv rfl 24 _ _ rfl (w.heap.size + 1) (x) rfl rfl 24 (0) (by with_reducible assumption) (by kernel_rfl) ?_; have H134 : Hid (Ds [(b, wv (r), 24), (wc29.heap.size, wv (x), 24), (w.heap.size + 1, wv (x), 24), (w.heap.size, wv (A), 24)] w (wq.setRow (w.heap.size + 1) (wv (x)))) := Lib.hid (HQ.out.setRow 2 (wv (x)) _ _ _ rfl); clear g1_0 g1_1 g1_2 g1_3 HQ; have g2_0 : Blk (wq.setRow (w.heap.size + 1) (wv (x))) (b) (wv (r)) 24 := H134.out.all 0 _ rfl; have g2_1 : Blk (wq.setRow (w.heap.size + 1) (wv (x))) (wc29.heap.size) (wv (x)) 24 := H134.out.all 1 _ rfl; have g2_2 : Blk (wq.setRow (w.heap.size + 1) (wv (x))) (w.heap.size + 1) (wv (x)) 24 := H134.out.all 2 _ rfl; have g2_3 : Blk (wq.setRow (w.heap.size + 1) (wv (x))) (w.heap.size) (wv (A)) 24 := H134.out.all 3 _ rfl))
      refine bodyPost_ret (results_ctt rfl _ _ (w.heap.size + 1) 24 _ _ rfl (H134.out.all 2 _ rfl) Tryd.underlying24 rfl (by rw [wv_size]; kernel_rfl)) rfl ?_
      exact ⟨ret3 rfl (by rw [HH.out]; try rfl) (by rfl), H134.out.le⟩
theorem rcut4_mid (A : Nat) (c : Nat) (hA : A < W384) (h0 : 0 < c) (h1 : c < 385) (ht : A.testBit (c - 1) = true) (hr0 : ¬ A % 2 ^ (c - 1) = 0) (w : World) : Calls Tryd.prog 13 #[.agg (wv (A)), .int .i64 (c : Nat)] w fun e w' => e = .returned (.tuple #[.agg (wv (A / 2 ^ c)), .int .i64 (cutH A c), .bool (decide (A % 2 ^ c = 0))]) ∧ Below w.heap.size w w' := by
  obtain ⟨d, hd⟩ : ∃ d, c - 1 = d := ⟨_, rfl⟩
  have KD : (c : Int) - 1 = (d : Int) := by omega
  have KW : IntKind.i64.wrap ((c : Int) - 1) = (d : Int) := by rw [KD, IntKind.wrap_i64]; omega
  have G1 : ¬ (c : Int) < 0 := by omega
  have G2 : ¬ 385 < (c : Int) := by omega
  have G3 : ((c : Int) == 0) = false := by rw [beq_eq_false_iff_ne]; omega
  have G4 : ((c : Int) == 385) = false := by rw [beq_eq_false_iff_ne]; omega
  have l384 := cut_shift (c := c) hA (by omega)
  obtain ⟨x, hx⟩ : ∃ x, A / 2 ^ c = x := ⟨_, rfl⟩
  obtain ⟨z, hz⟩ : ∃ z, decide (A % 2 ^ c ≠ 0) = z := ⟨_, rfl⟩
  have hnz : decide (A % 2 ^ c = 0) = !z := by rw [← hz]; simp
  rw [hx, hnz]
  have lr : A % 2 ^ d < W384 := Nat.lt_of_le_of_lt (Nat.mod_le _ _) hA
  have hm : Tryd.prog.eqGuardType Tryd.prog.depth 24 = false := by kernel_rfl
  have hcut : cutH A c = (if A.testBit d = false then -1 else if A % 2 ^ d = 0 then 0 else 1) := by
    unfold cutH
    rw [hd]
    by_cases ht : A.testBit d = false
    · rw [if_pos (Or.inr (Or.inr ht)), if_pos ht]
    · rw [if_neg (fun h => by rcases h with h | h | h <;> first | omega | exact ht h), if_neg ht]
  obtain ⟨r, hr⟩ : ∃ r, A % 2 ^ d = r := ⟨_, rfl⟩
  rw [hr] at hcut lr
  rw [hd] at ht
  rw [hd, hr] at hr0
  have HH : Hid (cutH A c = 1) := Lib.hid (hcut.trans (by rw [if_neg (by rw [ht]; decide), if_neg hr0]))
  have q0 : ∀ w, (binOp .neq 24 (.agg (wv r)) (.agg #[.int .u64 0, .int .u64 0, .int .u64 0, .int .u64 0, .int .u64 0, .int .u64 0])).run Tryd.prog w = .ok (.bool true) w := fun w => by
    rw [← wv_zero]
    have := run_neq_wv Tryd.underlying24 Tryd.underlying22 (by kernel_rfl) r 0 lr W384_pos w
    rwa [decide_eq_false hr0] at this
  have C1 : Hid (∀ W, Calls Tryd.prog 28 #[.agg (wv (A)), .int .i64 (c : Nat)] W fun e w' => e = .returned (.tuple #[.agg (wv x), .bool z]) ∧ Below W.heap.size W w') := Lib.hid fun W => by have := rright2_c A c W hA; rwa [l384.1, l384.2, hx, hz] at this
  have C2 : Hid (∀ W, Calls Tryd.prog 34 #[.agg (wv (A)), .int .i64 (d : Nat)] W fun e w' => e = .returned (.bool true) ∧ Below W.heap.size W w') := Lib.hid fun W => by have := rbit2_c A d W; rwa [bitW_nat A d (by omega), ht] at this
  have C3 : Hid (∀ W, Calls Tryd.prog 36 #[.int .i64 (d : Nat)] W fun e w' => e = .returned (.agg (wv (maskN d))) ∧ Below W.heap.size W w') := Lib.hid fun W => by have := rmask2_c d W; rwa [show clamp (d : Int) 384 = d by unfold clamp; omega] at this
  have C4 : Hid (∀ W, Calls Tryd.prog 38 #[.agg (wv (A)), .agg (wv (maskN d))] W fun e w' => e = .returned (.agg (wv (r))) ∧ Below W.heap.size W w') := Lib.hid fun W => by have := rand2_c A (maskN d) W; rwa [and_mask, hr] at this
  clear hd l384 hx hz hnz lr hcut hr h0 h1 ht hA hr0
  go_enter Tryd.func13, Tryd.ntmps13
  have HS0 := Lib.hid ((Ds.nil w).box (wv (A)) 24 (w.heap.size) rfl)
  have g1_0 : Blk (w.alloc (.cells (wv (A)) 24)) (w.heap.size) (wv (A)) 24 := HS0.out.all 0 _ rfl
  have H135 : Hid (Ds [(w.heap.size + 1, wv (0), 24), (w.heap.size, wv (A), 24)] w ((w.alloc (.cells (wv (A)) 24)).alloc (.cells #[.int .u64 0, .int .u64 0, .int .u64 0, .int .u64 0, .int .u64 0, .int .u64 0] 24))) := Lib.hid (HS0.out.zero 24 _ (by simp))
  have g2_0 : Blk ((w.alloc (.cells (wv (A)) 24)).alloc (.cells #[.int .u64 0, .int .u64 0, .int .u64 0, .int .u64 0, .int .u64 0, .int .u64 0] 24)) (w.heap.size + 1) (wv (0)) 24 := H135.out.all 0 _ rfl
  have g2_1 : Blk ((w.alloc (.cells (wv (A)) 24)).alloc (.cells #[.int .u64 0, .int .u64 0, .int .u64 0, .int .u64 0, .int .u64 0, .int .u64 0] 24)) (w.heap.size) (wv (A)) 24 := H135.out.all 1 _ rfl
  go_wp2_with (first
    | (refine wpList_load_wv rfl 24 _ rfl _ rfl 24 _ _ (by with_reducible assumption) Tryd.underlying24 rfl (by kernel_rfl) ?_)
    | (refine wpList_load_wv_g rfl 24 _ rfl _ rfl 24 _ _ (by with_reducible assumption) Tryd.underlying24 rfl (by kernel_rfl) ?_)
    | (go_at_call 28; (with_reducible refine (C1.out _).mono ?_); rintro e wc36 ⟨rfl, bc36⟩; clear C1; have H137 : Hid (Ds [(w.heap.size + 1, wv (0), 24), (w.heap.size, wv (A), 24)] w wc36) := Lib.hid (H135.out.call bc36); clear g1_0 g2_0 g2_1 bc36 H135; have g3_0 : Blk wc36 (w.heap.size + 1) (wv (0)) 24 := H137.out.all 0 _ rfl; have g3_1 : Blk wc36 (w.heap.size) (wv (A)) 24 := H137.out.all 1 _ rfl)
    | (refine wpList_store_wv rfl 24 _ _ rfl (wc36.heap.size) (x) rfl rfl 24 0 (Blk.zeroAt _ _ rfl) (by kernel_rfl) ?_; have H138 : Hid (Ds [(wc36.heap.size, wv (x), 24), (w.heap.size + 1, wv (0), 24), (w.heap.size, wv (A), 24)] w ((wc36.alloc (.cells #[.int .u64 0, .int .u64 0, .int .u64 0, .int .u64 0, .int .u64 0, .int .u64 0] 24)).setRow wc36.heap.size (wv (x)))) := Lib.hid ((H137.out.box #[.int .u64 0, .int .u64 0, .int .u64 0, .int .u64 0, .int .u64 0, .int .u64 0] 24 _ rfl).setRow 0 (wv (x)) _ _ _ rfl); clear g3_0 g3_1 H137; have g4_0 : Blk ((wc36.alloc (.cells #[.int .u64 0, .int .u64 0, .int .u64 0, .int .u64 0, .int .u64 0, .int .u64 0] 24)).setRow wc36.heap.size (wv (x))) (wc36.heap.size) (wv (x)) 24 := H138.out.all 0 _ rfl; have g4_1 : Blk ((wc36.alloc (.cells #[.int .u64 0, .int .u64 0, .int .u64 0, .int .u64 0, .int .u64 0, .int .u64 0] 24)).setRow wc36.heap.size (wv (x))) (w.heap.size + 1) (wv (0)) 24 := H138.out.all 1 _ rfl; have g4_2 : Blk ((wc36.alloc (.cells #[.int .u64 0, .int .u64 0, .int .u64 0, .int .u64 0, .int .u64 0, .int .u64 0] 24)).setRow wc36.heap.size (wv (x))) (w.heap.size) (wv (A)) 24 := H138.out.all 2 _ rfl)
    | (go_at_call 34; (with_reducible refine (C2.out _).mono ?_); rintro e wc39 ⟨rfl, bc39⟩; clear C2; have H140 : Hid (Ds [(wc36.heap.size, wv (x), 24), (w.heap.size + 1, wv (0), 24), (w.heap.size, wv (A), 24)] w wc39) := Lib.hid (H138.out.call bc39); clear g4_0 g4_1 g4_2 bc39 H138; have g5_0 : Blk wc39 (wc36.heap.size) (wv (x)) 24 := H140.out.all 0 _ rfl; have g5_1 : Blk wc39 (w.heap.size + 1) (wv (0)) 24 := H140.out.all 1 _ rfl; have g5_2 : Blk wc39 (w.heap.size) (wv (A)) 24 := H140.out.all 2 _ rfl))
  try simp only [Act.put]
  refine wp_region_alloc (l1 := [_, _, _, _, _]) (l2 := [_]) (fun S w' => Ds [(wc36.heap.size, wv (x), 24), (w.heap.size + 1, wv (0), 24), (w.heap.size, wv (A), 24)] w w') (fun b S w' => Ds ((b, if S 6 = true then wv r else wv 0, 24) :: [(wc36.heap.size, wv (x), 24), (w.heap.size + 1, wv (0), 24), (w.heap.size, wv (A), 24)]) w w') (by kernel_rfl) (by kernel_rfl) (by kernel_rfl) (H140.out.drew) ?_
  refine ⟨.agg (wv A), ⟨stepOk_load_blk rfl (fun _ _ _ h => h) 24 _ rfl (w.heap.size) rfl 24 (wv A) _ (fun S w' h3 => h3.2.all 2 _ rfl) Tryd.underlying24 rfl (by first | (rw [wv_size]; kernel_rfl) | kernel_rfl), fun b => stepOk_load_blk rfl (fun _ _ _ h => h) 24 _ rfl (w.heap.size) rfl 24 (wv A) _ (fun S w' h3 => h3.2.all 3 _ rfl) Tryd.underlying24 rfl (by first | (rw [wv_size]; kernel_rfl) | kernel_rfl)⟩, ?_⟩
  simp only [Act.put, List.setIfInBounds_toArray, List.set_cons_succ, List.set_cons_zero]
  refine ⟨.int .i64 (c : Nat), ⟨stepOk_pure rfl (fun _ _ _ h => h) (fun _ => rfl), fun b => stepOk_pure rfl (fun _ _ _ h => h) (fun _ => rfl)⟩, ?_⟩
  simp only [Act.put, List.setIfInBounds_toArray, List.set_cons_succ, List.set_cons_zero]
  refine ⟨.int .i64 (IntKind.i64.wrap ((c : Int) - 1)), ⟨stepOk_pure rfl (fun _ _ _ h => h) (fun _ => rfl), fun b => stepOk_pure rfl (fun _ _ _ h => h) (fun _ => rfl)⟩, ?_⟩
  simp only [Act.put, List.setIfInBounds_toArray, List.set_cons_succ, List.set_cons_zero]
  rw [KW]
  refine ⟨.agg (wv (maskN d)), ⟨stepOk_call rfl 36 _ _ rfl Tryd.f36 Tryd.func36 (by kernel_rfl) (by kernel_rfl) [.int .i64 (d : Nat)] rfl (fun S w' h1 h3 => (C3.out _).mono fun e w'' ⟨he, hb⟩ => ⟨he, h3.1, h3.2.call hb⟩), fun b => stepOk_call rfl 36 _ _ rfl Tryd.f36 Tryd.func36 (by kernel_rfl) (by kernel_rfl) [.int .i64 (d : Nat)] rfl (fun S w' h1 h3 => (C3.out _).mono fun e w'' ⟨he, hb⟩ => ⟨he, h3.1, h3.2.call hb⟩)⟩, ?_⟩
  simp only [Act.put, List.setIfInBounds_toArray, List.set_cons_succ, List.set_cons_zero]
  refine ⟨.agg (wv r), ⟨stepOk_call rfl 38 _ _ rfl Tryd.f38 Tryd.func38 (by kernel_rfl) (by kernel_rfl) [.agg (wv A), .agg (wv (maskN d))] rfl (fun S w' h1 h3 => (C4.out _).mono fun e w'' ⟨he, hb⟩ => ⟨he, h3.1, h3.2.call hb⟩), fun b => stepOk_call rfl 38 _ _ rfl Tryd.f38 Tryd.func38 (by kernel_rfl) (by kernel_rfl) [.agg (wv A), .agg (wv (maskN d))] rfl (fun S w' h1 h3 => (C4.out _).mono fun e w'' ⟨he, hb⟩ => ⟨he, h3.1, h3.2.call hb⟩)⟩, ?_⟩
  simp only [Act.put, List.setIfInBounds_toArray, List.set_cons_succ, List.set_cons_zero]
  refine ⟨rfl, fun S w' h1 hcl h3 => ?_, fun b => ?_⟩
  · have hS6 : S 6 = false := by
      cases h6 : S 6
      · rfl
      · have := hcl.chain 8 6 5 (by kernel_rfl) h6
        rw [show S 5 = false from h1] at this; cases this
    refine ⟨rfl, ?_⟩
    show Ds ((w'.heap.size, if S 6 = true then wv r else wv 0, 24) :: [(wc36.heap.size, wv (x), 24), (w.heap.size + 1, wv (0), 24), (w.heap.size, wv (A), 24)]) w _
    rw [hS6]
    exact h3.zero 24 _ rfl
  · simp only [Act.put, List.setIfInBounds_toArray, List.set_cons_succ, List.set_cons_zero]
    refine sets_store_blk rfl 24 _ _ rfl rfl b (wv r) rfl rfl 24 (by first | (rw [wv_size]; kernel_rfl) | kernel_rfl) (wv_one _) (fun S w' h1 hcl h2 h3 => ?_) ?_
    · exact ⟨⟨_, h3.2.all 0 _ rfl, by split <;> simp only [wv_size]⟩, h3.1, h3.2.setRow 0 (wv r) b _ 24 rfl⟩
    · intro S wq hS hI
      have hI2 : Ds ((b, wv r, 24) :: [(wc36.heap.size, wv (x), 24), (w.heap.size + 1, wv (0), 24), (w.heap.size, wv (A), 24)]) w wq := by
        have h6 : S 6 = true := hS 6 (by decide)
        have hI3 : Ds ((b, if S 6 = true then wv r else wv 0, 24) :: [(wc36.heap.size, wv (x), 24), (w.heap.size + 1, wv (0), 24), (w.heap.size, wv (A), 24)]) w wq := hI
        rw [h6] at hI3; exact hI3
      have HQ := Lib.hid hI2
      clear hI hI2
      have g1_0 : Blk wq (b) (wv (r)) 24 := HQ.out.all 0 _ rfl
      have g1_1 : Blk wq (wc36.heap.size) (wv (x)) 24 := HQ.out.all 1 _ rfl
      have g1_2 : Blk wq (w.heap.size + 1) (wv (0)) 24 := HQ.out.all 2 _ rfl
      have g1_3 : Blk wq (w.heap.size) (wv (A)) 24 := HQ.out.all 3 _ rfl
      go_wp2_with (first
        | (refine wpList_load_wv rfl 24 _ rfl _ rfl 24 _ _ (by with_reducible assumption) Tryd.underlying24 rfl (by kernel_rfl) ?_)
        | (refine wpList_load_wv_g rfl 24 _ rfl _ rfl 24 _ _ (by with_reducible assumption) Tryd.underlying24 rfl (by kernel_rfl) ?_)
        | (refine wpList_store_wv rfl 24 _ _ rfl (w.heap.size + 1) (x) rfl rfl 24 (0) (by with_reducible assumption) (by kernel_rfl) ?_; have H141 : Hid (Ds [(b, wv (r), 24), (wc36.heap.size, wv (x), 24), (w.heap.size + 1, wv (x), 24), (w.heap.size, wv (A), 24)] w (wq.setRow (w.heap.size + 1) (wv (x)))) := Lib.hid (HQ.out.setRow 2 (wv (x)) _ _ _ rfl); clear g1_0 g1_1 g1_2 g1_3 HQ; have g2_0 : Blk (wq.setRow (w.heap.size + 1) (wv (x))) (b) (wv (r)) 24 := H141.out.all 0 _ rfl; have g2_1 : Blk (wq.setRow (w.heap.size + 1) (wv (x))) (wc36.heap.size) (wv (x)) 24 := H141.out.all 1 _ rfl; have g2_2 : Blk (wq.setRow (w.heap.size + 1) (wv (x))) (w.heap.size + 1) (wv (x)) 24 := H141.out.all 2 _ rfl; have g2_3 : Blk (wq.setRow (w.heap.size + 1) (wv (x))) (w.heap.size) (wv (A)) 24 := H141.out.all 3 _ rfl))
      refine bodyPost_ret (results_ctt rfl _ _ (w.heap.size + 1) 24 _ _ rfl (H141.out.all 2 _ rfl) Tryd.underlying24 rfl (by rw [wv_size]; kernel_rfl)) rfl ?_
      exact ⟨ret3 rfl (by rw [HH.out]; try rfl) (by rfl), H141.out.le⟩
end Go.Proofs.YtlpgflmjpdhpnaaDoor
