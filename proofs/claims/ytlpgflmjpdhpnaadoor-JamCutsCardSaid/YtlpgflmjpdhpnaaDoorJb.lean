/- The contract of jam.Cut. -/
import Derived.Test.YtlpgflmjpdhpnaaDoorRows
import Derived.IntWalk
import Derived.Test.YtlpgflmjpdhpnaaDoorG
import Derived.Test.YtlpgflmjpdhpnaaDoorB
import Derived.Test.YtlpgflmjpdhpnaaDoorTr
import Derived.Test.YtlpgflmjpdhpnaaDoorTa
import Derived.Test.YtlpgflmjpdhpnaaDoorTm
import Derived.Test.YtlpgflmjpdhpnaaDoorXi
namespace Go.Proofs.YtlpgflmjpdhpnaaDoor
open Go.RowKit
set_option maxHeartbeats 4000000
set_option maxRecDepth 100000
set_option linter.unusedVariables false
set_option linter.unusedSimpArgs false
set_option exponentiation.threshold 1000
def cutH (A c : Nat) : Int := if c = 0 ∨ c = 385 ∨ A.testBit (c - 1) = false then -1 else if A % 2 ^ (c - 1) = 0 then 0 else 1
theorem and_mask (A c : Nat) : A &&& maskN c = A % 2 ^ c := by rw [maskN_eq]; exact Nat.and_two_pow_sub_one_eq_mod A c
theorem cut_shift {A c : Nat} (hA : A < W384) (hc : c ≤ 385) : A / 2 ^ clamp (c : Int) 384 = A / 2 ^ c ∧ A % 2 ^ clamp (c : Int) 384 = A % 2 ^ c := by
  by_cases h : c ≤ 384
  · rw [show clamp (c : Int) 384 = c by unfold clamp; omega]
    exact ⟨rfl, rfl⟩
  · rw [show clamp (c : Int) 384 = 384 by unfold clamp; omega]
    rw [W384_two] at hA
    have h2 : (2 : Nat) ^ 384 ≤ 2 ^ c := Nat.pow_le_pow_right (by decide) (by omega)
    have h3 : A < 2 ^ c := Nat.lt_of_lt_of_le hA h2
    rw [Nat.div_eq_of_lt hA, Nat.div_eq_of_lt h3, Nat.mod_eq_of_lt hA, Nat.mod_eq_of_lt h3]
    exact ⟨rfl, rfl⟩
theorem jcut_c (A : Nat) (n : Int) (w : World) (hA : A < W384) (hT : Tab w) : Calls Tryd.prog 12 #[.agg (wv (A)), .int .i64 n] w fun e w' => e = .returned (.tuple #[.agg (wv (A / 2 ^ clamp n 385)), .int .i64 (cutH A (clamp n 385)), .bool (decide (A % 2 ^ clamp n 385 = 0))]) ∧ Below w.heap.size w w' := by
  have HTab := Lib.hid hT
  clear hT
  have hc := clamp_le n 385
  have hK : min (max n 0) 385 = ((clamp n 385 : Nat) : Int) := by unfold clamp; omega
  obtain ⟨c, hcc⟩ : ∃ c, clamp n 385 = c := ⟨_, rfl⟩
  rw [hcc] at hK hc ⊢
  clear hcc
  obtain ⟨s1, s2⟩ := cut_shift hA hc
  obtain ⟨x, hx⟩ : ∃ x, A / 2 ^ c = x := ⟨_, rfl⟩
  rw [hx] at s1 ⊢
  obtain ⟨z, hz⟩ : ∃ z, decide (A % 2 ^ c ≠ 0) = z := ⟨_, rfl⟩
  have HZ : Hid (decide (A % 2 ^ c = 0) = !z) := Lib.hid (by rw [← hz]; by_cases h : A % 2 ^ c = 0 <;> simp [h])
  have C1 : Hid (∀ W, Tab W → Calls Tryd.prog 22 #[.agg (wv (A)), .int .i64 (c : Nat)] W fun e w' => e = .returned (.tuple #[.agg (wv x), .bool z]) ∧ Below W.heap.size W w') := Lib.hid fun W hT => by have := wright_c A c W hA hT; rwa [s1, s2, hz] at this
  clear s1 s2 hx hz
  by_cases h0 : c = 0
  · have HH : Hid (cutH A c = -1) := Lib.hid (if_pos (.inl h0))
    have k0 : ((c : Int) == 0) = true := by rw [h0]; rfl
    clear h0 hA
    go_enter Tryd.func12, Tryd.ntmps12
    have HS0 := Lib.hid ((Ds.nil w).box (wv (A)) 24 (w.heap.size) rfl)
    have g1_0 : Blk (w.alloc (.cells (wv (A)) 24)) (w.heap.size) (wv (A)) 24 := HS0.out.all 0 _ rfl
    have tb1 : Tab (w.alloc (.cells (wv (A)) 24)) := HTab.out.below0 HS0.out.le
    have H133 : Hid (Ds [(w.heap.size + 1, wv (0), 24), (w.heap.size, wv (A), 24)] w ((w.alloc (.cells (wv (A)) 24)).alloc (.cells #[.int .u64 0, .int .u64 0, .int .u64 0, .int .u64 0, .int .u64 0, .int .u64 0] 24))) := Lib.hid (HS0.out.zero 24 _ (by simp))
    have g2_0 : Blk ((w.alloc (.cells (wv (A)) 24)).alloc (.cells #[.int .u64 0, .int .u64 0, .int .u64 0, .int .u64 0, .int .u64 0, .int .u64 0] 24)) (w.heap.size + 1) (wv (0)) 24 := H133.out.all 0 _ rfl
    have g2_1 : Blk ((w.alloc (.cells (wv (A)) 24)).alloc (.cells #[.int .u64 0, .int .u64 0, .int .u64 0, .int .u64 0, .int .u64 0, .int .u64 0] 24)) (w.heap.size) (wv (A)) 24 := H133.out.all 1 _ rfl
    have tb2 : Tab ((w.alloc (.cells (wv (A)) 24)).alloc (.cells #[.int .u64 0, .int .u64 0, .int .u64 0, .int .u64 0, .int .u64 0, .int .u64 0] 24)) := HTab.out.below0 H133.out.le
    go_wp2_with (first
      | (refine wpList_load_wv rfl 24 _ rfl _ rfl 24 _ _ (by with_reducible assumption) Tryd.underlying24 rfl (by kernel_rfl) ?_)
      | (refine wpList_load_wv_g rfl 24 _ rfl _ rfl 24 _ _ (by with_reducible assumption) Tryd.underlying24 rfl (by kernel_rfl) ?_)
      | (go_at_call 22; (with_reducible refine (C1.out _ (by with_reducible assumption)).mono ?_); rintro e wc34 ⟨rfl, bc34⟩; clear C1; have H135 : Hid (Ds [(w.heap.size + 1, wv (0), 24), (w.heap.size, wv (A), 24)] w wc34) := Lib.hid (H133.out.call bc34); clear g1_0 tb1 g2_0 g2_1 tb2 bc34 H133; have g3_0 : Blk wc34 (w.heap.size + 1) (wv (0)) 24 := H135.out.all 0 _ rfl; have g3_1 : Blk wc34 (w.heap.size) (wv (A)) 24 := H135.out.all 1 _ rfl; have tb3 : Tab wc34 := HTab.out.below0 H135.out.le)
      | (refine wpList_store_wv rfl 24 _ _ rfl (w.heap.size + 1) (x) rfl rfl 24 (0) (by with_reducible assumption) (by kernel_rfl) ?_; have H136 : Hid (Ds [(w.heap.size + 1, wv (x), 24), (w.heap.size, wv (A), 24)] w (wc34.setRow (w.heap.size + 1) (wv (x)))) := Lib.hid (H135.out.setRow 0 (wv (x)) _ _ _ rfl); clear g3_0 g3_1 tb3 H135; have g4_0 : Blk (wc34.setRow (w.heap.size + 1) (wv (x))) (w.heap.size + 1) (wv (x)) 24 := H136.out.all 0 _ rfl; have g4_1 : Blk (wc34.setRow (w.heap.size + 1) (wv (x))) (w.heap.size) (wv (A)) 24 := H136.out.all 1 _ rfl; have tb4 : Tab (wc34.setRow (w.heap.size + 1) (wv (x))) := HTab.out.below0 H136.out.le)
      | (refine wpList_store_wv rfl 24 _ _ rfl (w.heap.size + 1) (x) rfl rfl 24 (x) (by with_reducible assumption) (by kernel_rfl) ?_; have H137 : Hid (Ds [(w.heap.size + 1, wv (x), 24), (w.heap.size, wv (A), 24)] w ((wc34.setRow (w.heap.size + 1) (wv (x))).setRow (w.heap.size + 1) (wv (x)))) := Lib.hid (H136.out.setRow 0 (wv (x)) _ _ _ rfl); clear g4_0 g4_1 tb4 H136; have g5_0 : Blk ((wc34.setRow (w.heap.size + 1) (wv (x))).setRow (w.heap.size + 1) (wv (x))) (w.heap.size + 1) (wv (x)) 24 := H137.out.all 0 _ rfl; have g5_1 : Blk ((wc34.setRow (w.heap.size + 1) (wv (x))).setRow (w.heap.size + 1) (wv (x))) (w.heap.size) (wv (A)) 24 := H137.out.all 1 _ rfl; have tb5 : Tab ((wc34.setRow (w.heap.size + 1) (wv (x))).setRow (w.heap.size + 1) (wv (x))) := HTab.out.below0 H137.out.le))
    refine bodyPost_ret (results_ctt rfl _ _ (w.heap.size + 1) 24 _ _ rfl (H137.out.all 0 _ rfl) Tryd.underlying24 rfl (by rw [wv_size]; kernel_rfl)) rfl ?_
    exact ⟨ret3 rfl (by rw [HH.out]; try rfl) (by rw [HZ.out]; try rfl), H137.out.le⟩
  · have k0 : ((c : Int) == 0) = false := by rw [beq_eq_false_iff_ne]; omega
    by_cases h1 : c = 385
    · have HH : Hid (cutH A c = -1) := Lib.hid (if_pos (.inr (.inl h1)))
      have k1 : ((c : Int) == 385) = true := by rw [h1]; rfl
      clear h0 h1 hA
      go_enter Tryd.func12, Tryd.ntmps12
      have HS0 := Lib.hid ((Ds.nil w).box (wv (A)) 24 (w.heap.size) rfl)
      have g1_0 : Blk (w.alloc (.cells (wv (A)) 24)) (w.heap.size) (wv (A)) 24 := HS0.out.all 0 _ rfl
      have tb1 : Tab (w.alloc (.cells (wv (A)) 24)) := HTab.out.below0 HS0.out.le
      have H133 : Hid (Ds [(w.heap.size + 1, wv (0), 24), (w.heap.size, wv (A), 24)] w ((w.alloc (.cells (wv (A)) 24)).alloc (.cells #[.int .u64 0, .int .u64 0, .int .u64 0, .int .u64 0, .int .u64 0, .int .u64 0] 24))) := Lib.hid (HS0.out.zero 24 _ (by simp))
      have g2_0 : Blk ((w.alloc (.cells (wv (A)) 24)).alloc (.cells #[.int .u64 0, .int .u64 0, .int .u64 0, .int .u64 0, .int .u64 0, .int .u64 0] 24)) (w.heap.size + 1) (wv (0)) 24 := H133.out.all 0 _ rfl
      have g2_1 : Blk ((w.alloc (.cells (wv (A)) 24)).alloc (.cells #[.int .u64 0, .int .u64 0, .int .u64 0, .int .u64 0, .int .u64 0, .int .u64 0] 24)) (w.heap.size) (wv (A)) 24 := H133.out.all 1 _ rfl
      have tb2 : Tab ((w.alloc (.cells (wv (A)) 24)).alloc (.cells #[.int .u64 0, .int .u64 0, .int .u64 0, .int .u64 0, .int .u64 0, .int .u64 0] 24)) := HTab.out.below0 H133.out.le
      go_wp2_with (first
        | (refine wpList_load_wv rfl 24 _ rfl _ rfl 24 _ _ (by with_reducible assumption) Tryd.underlying24 rfl (by kernel_rfl) ?_)
        | (refine wpList_load_wv_g rfl 24 _ rfl _ rfl 24 _ _ (by with_reducible assumption) Tryd.underlying24 rfl (by kernel_rfl) ?_)
        | (go_at_call 22; (with_reducible refine (C1.out _ (by with_reducible assumption)).mono ?_); rintro e wc34 ⟨rfl, bc34⟩; clear C1; have H135 : Hid (Ds [(w.heap.size + 1, wv (0), 24), (w.heap.size, wv (A), 24)] w wc34) := Lib.hid (H133.out.call bc34); clear g1_0 tb1 g2_0 g2_1 tb2 bc34 H133; have g3_0 : Blk wc34 (w.heap.size + 1) (wv (0)) 24 := H135.out.all 0 _ rfl; have g3_1 : Blk wc34 (w.heap.size) (wv (A)) 24 := H135.out.all 1 _ rfl; have tb3 : Tab wc34 := HTab.out.below0 H135.out.le)
        | (refine wpList_store_wv rfl 24 _ _ rfl (w.heap.size + 1) (x) rfl rfl 24 (0) (by with_reducible assumption) (by kernel_rfl) ?_; have H136 : Hid (Ds [(w.heap.size + 1, wv (x), 24), (w.heap.size, wv (A), 24)] w (wc34.setRow (w.heap.size + 1) (wv (x)))) := Lib.hid (H135.out.setRow 0 (wv (x)) _ _ _ rfl); clear g3_0 g3_1 tb3 H135; have g4_0 : Blk (wc34.setRow (w.heap.size + 1) (wv (x))) (w.heap.size + 1) (wv (x)) 24 := H136.out.all 0 _ rfl; have g4_1 : Blk (wc34.setRow (w.heap.size + 1) (wv (x))) (w.heap.size) (wv (A)) 24 := H136.out.all 1 _ rfl; have tb4 : Tab (wc34.setRow (w.heap.size + 1) (wv (x))) := HTab.out.below0 H136.out.le)
        | (refine wpList_store_wv rfl 24 _ _ rfl (w.heap.size + 1) (x) rfl rfl 24 (x) (by with_reducible assumption) (by kernel_rfl) ?_; have H137 : Hid (Ds [(w.heap.size + 1, wv (x), 24), (w.heap.size, wv (A), 24)] w ((wc34.setRow (w.heap.size + 1) (wv (x))).setRow (w.heap.size + 1) (wv (x)))) := Lib.hid (H136.out.setRow 0 (wv (x)) _ _ _ rfl); clear g4_0 g4_1 tb4 H136; have g5_0 : Blk ((wc34.setRow (w.heap.size + 1) (wv (x))).setRow (w.heap.size + 1) (wv (x))) (w.heap.size + 1) (wv (x)) 24 := H137.out.all 0 _ rfl; have g5_1 : Blk ((wc34.setRow (w.heap.size + 1) (wv (x))).setRow (w.heap.size + 1) (wv (x))) (w.heap.size) (wv (A)) 24 := H137.out.all 1 _ rfl; have tb5 : Tab ((wc34.setRow (w.heap.size + 1) (wv (x))).setRow (w.heap.size + 1) (wv (x))) := HTab.out.below0 H137.out.le))
      refine bodyPost_ret (results_ctt rfl _ _ (w.heap.size + 1) 24 _ _ rfl (H137.out.all 0 _ rfl) Tryd.underlying24 rfl (by rw [wv_size]; kernel_rfl)) rfl ?_
      exact ⟨ret3 rfl (by rw [HH.out]; try rfl) (by rw [HZ.out]; try rfl), H137.out.le⟩
    · have k1 : ((c : Int) == 385) = false := by rw [beq_eq_false_iff_ne]; omega
      obtain ⟨d, hd⟩ : ∃ d, c - 1 = d := ⟨_, rfl⟩
      have K3 : (c : Int) - 1 = (d : Int) := by omega
      have hd4 : d < 384 := by omega
      have K3' : IntKind.i64.wrap ((c : Int) - 1) = (d : Int) := by rw [K3]; exact IntWalk.i64_in _ (by omega)
      cases hb : A.testBit d with
      | false =>
        have HH : Hid (cutH A c = -1) := Lib.hid (if_pos (.inr (.inr (by rw [hd]; exact hb))))
        have C2 : Hid (∀ W, Calls Tryd.prog 33 #[.agg (wv (A)), .int .i64 (d : Nat)] W fun e w' => e = .returned (.bool false) ∧ Below W.heap.size W w') := Lib.hid fun W => by have := wbit_c A d W; rwa [bitW_nat A d (by omega), hb] at this
        clear h0 h1 hd hb hA
        go_enter Tryd.func12, Tryd.ntmps12
        have HS0 := Lib.hid ((Ds.nil w).box (wv (A)) 24 (w.heap.size) rfl)
        have g1_0 : Blk (w.alloc (.cells (wv (A)) 24)) (w.heap.size) (wv (A)) 24 := HS0.out.all 0 _ rfl
        have tb1 : Tab (w.alloc (.cells (wv (A)) 24)) := HTab.out.below0 HS0.out.le
        have H138 : Hid (Ds [(w.heap.size + 1, wv (0), 24), (w.heap.size, wv (A), 24)] w ((w.alloc (.cells (wv (A)) 24)).alloc (.cells #[.int .u64 0, .int .u64 0, .int .u64 0, .int .u64 0, .int .u64 0, .int .u64 0] 24))) := Lib.hid (HS0.out.zero 24 _ (by simp))
        have g2_0 : Blk ((w.alloc (.cells (wv (A)) 24)).alloc (.cells #[.int .u64 0, .int .u64 0, .int .u64 0, .int .u64 0, .int .u64 0, .int .u64 0] 24)) (w.heap.size + 1) (wv (0)) 24 := H138.out.all 0 _ rfl
        have g2_1 : Blk ((w.alloc (.cells (wv (A)) 24)).alloc (.cells #[.int .u64 0, .int .u64 0, .int .u64 0, .int .u64 0, .int .u64 0, .int .u64 0] 24)) (w.heap.size) (wv (A)) 24 := H138.out.all 1 _ rfl
        have tb2 : Tab ((w.alloc (.cells (wv (A)) 24)).alloc (.cells #[.int .u64 0, .int .u64 0, .int .u64 0, .int .u64 0, .int .u64 0, .int .u64 0] 24)) := HTab.out.below0 H138.out.le
        go_wp2_with (first
          | (refine wpList_load_wv rfl 24 _ rfl _ rfl 24 _ _ (by with_reducible assumption) Tryd.underlying24 rfl (by kernel_rfl) ?_)
          | (refine wpList_load_wv_g rfl 24 _ rfl _ rfl 24 _ _ (by with_reducible assumption) Tryd.underlying24 rfl (by kernel_rfl) ?_)
          | (go_at_call 22; (with_reducible refine (C1.out _ (by with_reducible assumption)).mono ?_); rintro e wc39 ⟨rfl, bc39⟩; clear C1; have H140 : Hid (Ds [(w.heap.size + 1, wv (0), 24), (w.heap.size, wv (A), 24)] w wc39) := Lib.hid (H138.out.call bc39); clear g1_0 tb1 g2_0 g2_1 tb2 bc39 H138; have g3_0 : Blk wc39 (w.heap.size + 1) (wv (0)) 24 := H140.out.all 0 _ rfl; have g3_1 : Blk wc39 (w.heap.size) (wv (A)) 24 := H140.out.all 1 _ rfl; have tb3 : Tab wc39 := HTab.out.below0 H140.out.le)
          | (refine wpList_store_wv rfl 24 _ _ rfl (w.heap.size + 1) (x) rfl rfl 24 (0) (by with_reducible assumption) (by kernel_rfl) ?_; have H141 : Hid (Ds [(w.heap.size + 1, wv (x), 24), (w.heap.size, wv (A), 24)] w (wc39.setRow (w.heap.size + 1) (wv (x)))) := Lib.hid (H140.out.setRow 0 (wv (x)) _ _ _ rfl); clear g3_0 g3_1 tb3 H140; have g4_0 : Blk (wc39.setRow (w.heap.size + 1) (wv (x))) (w.heap.size + 1) (wv (x)) 24 := H141.out.all 0 _ rfl; have g4_1 : Blk (wc39.setRow (w.heap.size + 1) (wv (x))) (w.heap.size) (wv (A)) 24 := H141.out.all 1 _ rfl; have tb4 : Tab (wc39.setRow (w.heap.size + 1) (wv (x))) := HTab.out.below0 H141.out.le)
          | (go_at_call 33; (with_reducible refine (C2.out _).mono ?_); rintro e wc42 ⟨rfl, bc42⟩; clear C2; have H143 : Hid (Ds [(w.heap.size + 1, wv (x), 24), (w.heap.size, wv (A), 24)] w wc42) := Lib.hid (H141.out.call bc42); clear g4_0 g4_1 tb4 bc42 H141; have g5_0 : Blk wc42 (w.heap.size + 1) (wv (x)) 24 := H143.out.all 0 _ rfl; have g5_1 : Blk wc42 (w.heap.size) (wv (A)) 24 := H143.out.all 1 _ rfl; have tb5 : Tab wc42 := HTab.out.below0 H143.out.le)
          | (refine wpList_store_wv rfl 24 _ _ rfl (w.heap.size + 1) (x) rfl rfl 24 (x) (by with_reducible assumption) (by kernel_rfl) ?_; have H144 : Hid (Ds [(w.heap.size + 1, wv (x), 24), (w.heap.size, wv (A), 24)] w (wc42.setRow (w.heap.size + 1) (wv (x)))) := Lib.hid (H143.out.setRow 0 (wv (x)) _ _ _ rfl); clear g5_0 g5_1 tb5 H143; have g6_0 : Blk (wc42.setRow (w.heap.size + 1) (wv (x))) (w.heap.size + 1) (wv (x)) 24 := H144.out.all 0 _ rfl; have g6_1 : Blk (wc42.setRow (w.heap.size + 1) (wv (x))) (w.heap.size) (wv (A)) 24 := H144.out.all 1 _ rfl; have tb6 : Tab (wc42.setRow (w.heap.size + 1) (wv (x))) := HTab.out.below0 H144.out.le))
        refine bodyPost_ret (results_ctt rfl _ _ (w.heap.size + 1) 24 _ _ rfl (H144.out.all 0 _ rfl) Tryd.underlying24 rfl (by rw [wv_size]; kernel_rfl)) rfl ?_
        exact ⟨ret3 rfl (by rw [HH.out]; try rfl) (by rw [HZ.out]; try rfl), H144.out.le⟩
      | true =>
        have hne : ¬ (c = 0 ∨ c = 385 ∨ A.testBit (c - 1) = false) := by rw [hd, hb]; simp [h0, h1]
        have C2 : Hid (∀ W, Calls Tryd.prog 33 #[.agg (wv (A)), .int .i64 (d : Nat)] W fun e w' => e = .returned (.bool true) ∧ Below W.heap.size W w') := Lib.hid fun W => by have := wbit_c A d W; rwa [bitW_nat A d (by omega), hb] at this
        have C3 : Hid (∀ W, Calls Tryd.prog 35 #[.int .i64 (d : Nat)] W fun e w' => e = .returned (.agg (wv (maskN d))) ∧ Below W.heap.size W w') := Lib.hid fun W => by have := wmask_c d W; rwa [show clamp (d : Int) 384 = d by unfold clamp; omega] at this
        have C4 : Hid (∀ W, Calls Tryd.prog 37 #[.agg (wv (A)), .agg (wv (maskN d))] W fun e w' => e = .returned (.agg (wv (A % 2 ^ d))) ∧ Below W.heap.size W w') := Lib.hid fun W => by have := wand_c A (maskN d) W; rwa [and_mask] at this
        have hm : Tryd.prog.eqGuardType Tryd.prog.depth 24 = false := by kernel_rfl
        have lr : A % 2 ^ d < W384 := Nat.lt_of_le_of_lt (Nat.mod_le _ _) hA
        by_cases hr : A % 2 ^ d = 0
        · have HH : Hid (cutH A c = 0) := Lib.hid (by unfold cutH; rw [if_neg hne, hd, if_pos hr])
          have q1 : ∀ w, (binOp .neq 24 (.agg (wv (A % 2 ^ d))) (.agg #[.int .u64 0, .int .u64 0, .int .u64 0, .int .u64 0, .int .u64 0, .int .u64 0])).run Tryd.prog w = .ok (.bool false) w := fun w => by
            rw [← wv_zero]
            have := run_neq_wv Tryd.underlying24 Tryd.underlying22 (by kernel_rfl) (A % 2 ^ d) 0 lr W384_pos w
            rwa [decide_eq_true hr] at this
          obtain ⟨r, hrr⟩ : ∃ r, A % 2 ^ d = r := ⟨_, rfl⟩
          rw [hrr] at C4 q1
          clear h0 h1 hd hb hA hne lr hr hrr
          go_enter Tryd.func12, Tryd.ntmps12
          have HS0 := Lib.hid ((Ds.nil w).box (wv (A)) 24 (w.heap.size) rfl)
          have g1_0 : Blk (w.alloc (.cells (wv (A)) 24)) (w.heap.size) (wv (A)) 24 := HS0.out.all 0 _ rfl
          have tb1 : Tab (w.alloc (.cells (wv (A)) 24)) := HTab.out.below0 HS0.out.le
          have H145 : Hid (Ds [(w.heap.size + 1, wv (0), 24), (w.heap.size, wv (A), 24)] w ((w.alloc (.cells (wv (A)) 24)).alloc (.cells #[.int .u64 0, .int .u64 0, .int .u64 0, .int .u64 0, .int .u64 0, .int .u64 0] 24))) := Lib.hid (HS0.out.zero 24 _ (by simp))
          have g2_0 : Blk ((w.alloc (.cells (wv (A)) 24)).alloc (.cells #[.int .u64 0, .int .u64 0, .int .u64 0, .int .u64 0, .int .u64 0, .int .u64 0] 24)) (w.heap.size + 1) (wv (0)) 24 := H145.out.all 0 _ rfl
          have g2_1 : Blk ((w.alloc (.cells (wv (A)) 24)).alloc (.cells #[.int .u64 0, .int .u64 0, .int .u64 0, .int .u64 0, .int .u64 0, .int .u64 0] 24)) (w.heap.size) (wv (A)) 24 := H145.out.all 1 _ rfl
          have tb2 : Tab ((w.alloc (.cells (wv (A)) 24)).alloc (.cells #[.int .u64 0, .int .u64 0, .int .u64 0, .int .u64 0, .int .u64 0, .int .u64 0] 24)) := HTab.out.below0 H145.out.le
          go_wp2_with (first
            | (refine wpList_load_wv rfl 24 _ rfl _ rfl 24 _ _ (by with_reducible assumption) Tryd.underlying24 rfl (by kernel_rfl) ?_)
            | (refine wpList_load_wv_g rfl 24 _ rfl _ rfl 24 _ _ (by with_reducible assumption) Tryd.underlying24 rfl (by kernel_rfl) ?_)
            | (go_at_call 22; (with_reducible refine (C1.out _ (by with_reducible assumption)).mono ?_); rintro e wc46 ⟨rfl, bc46⟩; clear C1; have H147 : Hid (Ds [(w.heap.size + 1, wv (0), 24), (w.heap.size, wv (A), 24)] w wc46) := Lib.hid (H145.out.call bc46); clear g1_0 tb1 g2_0 g2_1 tb2 bc46 H145; have g3_0 : Blk wc46 (w.heap.size + 1) (wv (0)) 24 := H147.out.all 0 _ rfl; have g3_1 : Blk wc46 (w.heap.size) (wv (A)) 24 := H147.out.all 1 _ rfl; have tb3 : Tab wc46 := HTab.out.below0 H147.out.le)
            | (refine wpList_store_wv rfl 24 _ _ rfl (w.heap.size + 1) (x) rfl rfl 24 (0) (by with_reducible assumption) (by kernel_rfl) ?_; have H148 : Hid (Ds [(w.heap.size + 1, wv (x), 24), (w.heap.size, wv (A), 24)] w (wc46.setRow (w.heap.size + 1) (wv (x)))) := Lib.hid (H147.out.setRow 0 (wv (x)) _ _ _ rfl); clear g3_0 g3_1 tb3 H147; have g4_0 : Blk (wc46.setRow (w.heap.size + 1) (wv (x))) (w.heap.size + 1) (wv (x)) 24 := H148.out.all 0 _ rfl; have g4_1 : Blk (wc46.setRow (w.heap.size + 1) (wv (x))) (w.heap.size) (wv (A)) 24 := H148.out.all 1 _ rfl; have tb4 : Tab (wc46.setRow (w.heap.size + 1) (wv (x))) := HTab.out.below0 H148.out.le)
            | (go_at_call 33; (with_reducible refine (C2.out _).mono ?_); rintro e wc49 ⟨rfl, bc49⟩; clear C2; have H150 : Hid (Ds [(w.heap.size + 1, wv (x), 24), (w.heap.size, wv (A), 24)] w wc49) := Lib.hid (H148.out.call bc49); clear g4_0 g4_1 tb4 bc49 H148; have g5_0 : Blk wc49 (w.heap.size + 1) (wv (x)) 24 := H150.out.all 0 _ rfl; have g5_1 : Blk wc49 (w.heap.size) (wv (A)) 24 := H150.out.all 1 _ rfl; have tb5 : Tab wc49 := HTab.out.below0 H150.out.le))
          try simp only [Act.put]
          refine wp_region_sets_lit (fun S w' => Ds [(w.heap.size + 1, wv (x), 24), (w.heap.size, wv (A), 24)] w w') (by kernel_rfl) (by kernel_rfl) (H150.out.drew) ?_
          obtain ⟨U, W, hW, hU⟩ := worlds (fun S w' => Ds [(w.heap.size + 1, wv (x), 24), (w.heap.size, wv (A), 24)] w w')
          replace hW := Lib.hid hW
          replace hU := Lib.hid hU
          repeat (refine sets_quiet (fun w' => ∃ u, w' = W u) hU.out rfl (fun _ _ _ h => h) rfl ?_; intro K hK; go_big_quiet_op; first | go_big_quiet_on | (refine ⟨_, fun _ => rfl, ?_⟩; go_big_quiet_on))
          refine sets_load_blk rfl (fun _ _ _ h => h) 24 _ rfl (w.heap.size) rfl 24 (wv (A)) _ (fun S w' _ h3 => h3.all 1 _ rfl) Tryd.underlying24 rfl (by first | (rw [wv_size]; kernel_rfl) | kernel_rfl) ?_
          simp only [Act.put, List.setIfInBounds_toArray, List.set_cons_succ, List.set_cons_zero]
          repeat (refine sets_quiet (fun w' => ∃ u, w' = W u) hU.out rfl (fun _ _ _ h => h) rfl ?_; intro K hK; go_big_quiet_op; first | go_big_quiet_on | (refine ⟨_, fun _ => rfl, ?_⟩; go_big_quiet_on))
          refine sets_call (.agg (wv (maskN d))) rfl 35 _ _ rfl Tryd.f35 Tryd.func35 (by kernel_rfl) (by kernel_rfl) [.int .i64 (d : Nat)] rfl ?_ ?_
          · intro S w' h1 h2 h3
            refine (C3.out _).mono ?_
            rintro e w'' ⟨rfl, hb⟩
            exact ⟨rfl, h3.call hb⟩
          · simp only [Act.put, List.setIfInBounds_toArray, List.set_cons_succ, List.set_cons_zero]
            repeat (refine sets_quiet (fun w' => ∃ u, w' = W u) hU.out rfl (fun _ _ _ h => h) rfl ?_; intro K hK; go_big_quiet_op; first | go_big_quiet_on | (refine ⟨_, fun _ => rfl, ?_⟩; go_big_quiet_on))
            refine sets_call (.agg (wv r)) rfl 37 _ _ rfl Tryd.f37 Tryd.func37 (by kernel_rfl) (by kernel_rfl) [.agg (wv (A)), .agg (wv (maskN d))] rfl ?_ ?_
            · intro S w' h1 h2 h3
              refine (C4.out _).mono ?_
              rintro e w'' ⟨rfl, hb⟩
              exact ⟨rfl, h3.call hb⟩
            · simp only [Act.put, List.setIfInBounds_toArray, List.set_cons_succ, List.set_cons_zero]
              repeat (refine sets_quiet (fun w' => ∃ u, w' = W u) hU.out rfl (fun _ _ _ h => h) rfl ?_; intro K hK; go_big_quiet_op; first | go_big_quiet_on | (refine ⟨_, fun _ => rfl, ?_⟩; go_big_quiet_on))
              intro S wq hS hI
              clear hW hU
              have HQ := Lib.hid hI
              clear hI
              have g1_0 : Blk wq (w.heap.size + 1) (wv (x)) 24 := HQ.out.all 0 _ rfl
              have g1_1 : Blk wq (w.heap.size) (wv (A)) 24 := HQ.out.all 1 _ rfl
              go_wp2_with (first
                | (refine wpList_load_wv rfl 24 _ rfl _ rfl 24 _ _ (by with_reducible assumption) Tryd.underlying24 rfl (by kernel_rfl) ?_)
                | (refine wpList_load_wv_g rfl 24 _ rfl _ rfl 24 _ _ (by with_reducible assumption) Tryd.underlying24 rfl (by kernel_rfl) ?_)
                | (refine wpList_store_wv rfl 24 _ _ rfl (w.heap.size + 1) (x) rfl rfl 24 (x) (by with_reducible assumption) (by kernel_rfl) ?_; have H151 : Hid (Ds [(w.heap.size + 1, wv (x), 24), (w.heap.size, wv (A), 24)] w (wq.setRow (w.heap.size + 1) (wv (x)))) := Lib.hid (HQ.out.setRow 0 (wv (x)) _ _ _ rfl); clear g1_0 g1_1 HQ; have g2_0 : Blk (wq.setRow (w.heap.size + 1) (wv (x))) (w.heap.size + 1) (wv (x)) 24 := H151.out.all 0 _ rfl; have g2_1 : Blk (wq.setRow (w.heap.size + 1) (wv (x))) (w.heap.size) (wv (A)) 24 := H151.out.all 1 _ rfl))
              refine bodyPost_ret (results_ctt rfl _ _ (w.heap.size + 1) 24 _ _ rfl (H151.out.all 0 _ rfl) Tryd.underlying24 rfl (by rw [wv_size]; kernel_rfl)) rfl ?_
              exact ⟨ret3 rfl (by rw [HH.out]; try rfl) (by rw [HZ.out]; try rfl), H151.out.le⟩
        · have HH : Hid (cutH A c = 1) := Lib.hid (by unfold cutH; rw [if_neg hne, hd, if_neg hr])
          have q1 : ∀ w, (binOp .neq 24 (.agg (wv (A % 2 ^ d))) (.agg #[.int .u64 0, .int .u64 0, .int .u64 0, .int .u64 0, .int .u64 0, .int .u64 0])).run Tryd.prog w = .ok (.bool true) w := fun w => by
            rw [← wv_zero]
            have := run_neq_wv Tryd.underlying24 Tryd.underlying22 (by kernel_rfl) (A % 2 ^ d) 0 lr W384_pos w
            rwa [decide_eq_false hr] at this
          obtain ⟨r, hrr⟩ : ∃ r, A % 2 ^ d = r := ⟨_, rfl⟩
          rw [hrr] at C4 q1
          clear h0 h1 hd hb hA hne lr hr hrr
          go_enter Tryd.func12, Tryd.ntmps12
          have HS0 := Lib.hid ((Ds.nil w).box (wv (A)) 24 (w.heap.size) rfl)
          have g1_0 : Blk (w.alloc (.cells (wv (A)) 24)) (w.heap.size) (wv (A)) 24 := HS0.out.all 0 _ rfl
          have tb1 : Tab (w.alloc (.cells (wv (A)) 24)) := HTab.out.below0 HS0.out.le
          have H145 : Hid (Ds [(w.heap.size + 1, wv (0), 24), (w.heap.size, wv (A), 24)] w ((w.alloc (.cells (wv (A)) 24)).alloc (.cells #[.int .u64 0, .int .u64 0, .int .u64 0, .int .u64 0, .int .u64 0, .int .u64 0] 24))) := Lib.hid (HS0.out.zero 24 _ (by simp))
          have g2_0 : Blk ((w.alloc (.cells (wv (A)) 24)).alloc (.cells #[.int .u64 0, .int .u64 0, .int .u64 0, .int .u64 0, .int .u64 0, .int .u64 0] 24)) (w.heap.size + 1) (wv (0)) 24 := H145.out.all 0 _ rfl
          have g2_1 : Blk ((w.alloc (.cells (wv (A)) 24)).alloc (.cells #[.int .u64 0, .int .u64 0, .int .u64 0, .int .u64 0, .int .u64 0, .int .u64 0] 24)) (w.heap.size) (wv (A)) 24 := H145.out.all 1 _ rfl
          have tb2 : Tab ((w.alloc (.cells (wv (A)) 24)).alloc (.cells #[.int .u64 0, .int .u64 0, .int .u64 0, .int .u64 0, .int .u64 0, .int .u64 0] 24)) := HTab.out.below0 H145.out.le
          go_wp2_with (first
            | (refine wpList_load_wv rfl 24 _ rfl _ rfl 24 _ _ (by with_reducible assumption) Tryd.underlying24 rfl (by kernel_rfl) ?_)
            | (refine wpList_load_wv_g rfl 24 _ rfl _ rfl 24 _ _ (by with_reducible assumption) Tryd.underlying24 rfl (by kernel_rfl) ?_)
            | (go_at_call 22; (with_reducible refine (C1.out _ (by with_reducible assumption)).mono ?_); rintro e wc46 ⟨rfl, bc46⟩; clear C1; have H147 : Hid (Ds [(w.heap.size + 1, wv (0), 24), (w.heap.size, wv (A), 24)] w wc46) := Lib.hid (H145.out.call bc46); clear g1_0 tb1 g2_0 g2_1 tb2 bc46 H145; have g3_0 : Blk wc46 (w.heap.size + 1) (wv (0)) 24 := H147.out.all 0 _ rfl; have g3_1 : Blk wc46 (w.heap.size) (wv (A)) 24 := H147.out.all 1 _ rfl; have tb3 : Tab wc46 := HTab.out.below0 H147.out.le)
            | (refine wpList_store_wv rfl 24 _ _ rfl (w.heap.size + 1) (x) rfl rfl 24 (0) (by with_reducible assumption) (by kernel_rfl) ?_; have H148 : Hid (Ds [(w.heap.size + 1, wv (x), 24), (w.heap.size, wv (A), 24)] w (wc46.setRow (w.heap.size + 1) (wv (x)))) := Lib.hid (H147.out.setRow 0 (wv (x)) _ _ _ rfl); clear g3_0 g3_1 tb3 H147; have g4_0 : Blk (wc46.setRow (w.heap.size + 1) (wv (x))) (w.heap.size + 1) (wv (x)) 24 := H148.out.all 0 _ rfl; have g4_1 : Blk (wc46.setRow (w.heap.size + 1) (wv (x))) (w.heap.size) (wv (A)) 24 := H148.out.all 1 _ rfl; have tb4 : Tab (wc46.setRow (w.heap.size + 1) (wv (x))) := HTab.out.below0 H148.out.le)
            | (go_at_call 33; (with_reducible refine (C2.out _).mono ?_); rintro e wc49 ⟨rfl, bc49⟩; clear C2; have H150 : Hid (Ds [(w.heap.size + 1, wv (x), 24), (w.heap.size, wv (A), 24)] w wc49) := Lib.hid (H148.out.call bc49); clear g4_0 g4_1 tb4 bc49 H148; have g5_0 : Blk wc49 (w.heap.size + 1) (wv (x)) 24 := H150.out.all 0 _ rfl; have g5_1 : Blk wc49 (w.heap.size) (wv (A)) 24 := H150.out.all 1 _ rfl; have tb5 : Tab wc49 := HTab.out.below0 H150.out.le))
          try simp only [Act.put]
          refine wp_region_sets_lit (fun S w' => Ds [(w.heap.size + 1, wv (x), 24), (w.heap.size, wv (A), 24)] w w') (by kernel_rfl) (by kernel_rfl) (H150.out.drew) ?_
          obtain ⟨U, W, hW, hU⟩ := worlds (fun S w' => Ds [(w.heap.size + 1, wv (x), 24), (w.heap.size, wv (A), 24)] w w')
          replace hW := Lib.hid hW
          replace hU := Lib.hid hU
          repeat (refine sets_quiet (fun w' => ∃ u, w' = W u) hU.out rfl (fun _ _ _ h => h) rfl ?_; intro K hK; go_big_quiet_op; first | go_big_quiet_on | (refine ⟨_, fun _ => rfl, ?_⟩; go_big_quiet_on))
          refine sets_load_blk rfl (fun _ _ _ h => h) 24 _ rfl (w.heap.size) rfl 24 (wv (A)) _ (fun S w' _ h3 => h3.all 1 _ rfl) Tryd.underlying24 rfl (by first | (rw [wv_size]; kernel_rfl) | kernel_rfl) ?_
          simp only [Act.put, List.setIfInBounds_toArray, List.set_cons_succ, List.set_cons_zero]
          repeat (refine sets_quiet (fun w' => ∃ u, w' = W u) hU.out rfl (fun _ _ _ h => h) rfl ?_; intro K hK; go_big_quiet_op; first | go_big_quiet_on | (refine ⟨_, fun _ => rfl, ?_⟩; go_big_quiet_on))
          refine sets_call (.agg (wv (maskN d))) rfl 35 _ _ rfl Tryd.f35 Tryd.func35 (by kernel_rfl) (by kernel_rfl) [.int .i64 (d : Nat)] rfl ?_ ?_
          · intro S w' h1 h2 h3
            refine (C3.out _).mono ?_
            rintro e w'' ⟨rfl, hb⟩
            exact ⟨rfl, h3.call hb⟩
          · simp only [Act.put, List.setIfInBounds_toArray, List.set_cons_succ, List.set_cons_zero]
            repeat (refine sets_quiet (fun w' => ∃ u, w' = W u) hU.out rfl (fun _ _ _ h => h) rfl ?_; intro K hK; go_big_quiet_op; first | go_big_quiet_on | (refine ⟨_, fun _ => rfl, ?_⟩; go_big_quiet_on))
            refine sets_call (.agg (wv r)) rfl 37 _ _ rfl Tryd.f37 Tryd.func37 (by kernel_rfl) (by kernel_rfl) [.agg (wv (A)), .agg (wv (maskN d))] rfl ?_ ?_
            · intro S w' h1 h2 h3
              refine (C4.out _).mono ?_
              rintro e w'' ⟨rfl, hb⟩
              exact ⟨rfl, h3.call hb⟩
            · simp only [Act.put, List.setIfInBounds_toArray, List.set_cons_succ, List.set_cons_zero]
              repeat (refine sets_quiet (fun w' => ∃ u, w' = W u) hU.out rfl (fun _ _ _ h => h) rfl ?_; intro K hK; go_big_quiet_op; first | go_big_quiet_on | (refine ⟨_, fun _ => rfl, ?_⟩; go_big_quiet_on))
              intro S wq hS hI
              clear hW hU
              have HQ := Lib.hid hI
              clear hI
              have g1_0 : Blk wq (w.heap.size + 1) (wv (x)) 24 := HQ.out.all 0 _ rfl
              have g1_1 : Blk wq (w.heap.size) (wv (A)) 24 := HQ.out.all 1 _ rfl
              go_wp2_with (first
                | (refine wpList_load_wv rfl 24 _ rfl _ rfl 24 _ _ (by with_reducible assumption) Tryd.underlying24 rfl (by kernel_rfl) ?_)
                | (refine wpList_load_wv_g rfl 24 _ rfl _ rfl 24 _ _ (by with_reducible assumption) Tryd.underlying24 rfl (by kernel_rfl) ?_)
                | (refine wpList_store_wv rfl 24 _ _ rfl (w.heap.size + 1) (x) rfl rfl 24 (x) (by with_reducible assumption) (by kernel_rfl) ?_; have H151 : Hid (Ds [(w.heap.size + 1, wv (x), 24), (w.heap.size, wv (A), 24)] w (wq.setRow (w.heap.size + 1) (wv (x)))) := Lib.hid (HQ.out.setRow 0 (wv (x)) _ _ _ rfl); clear g1_0 g1_1 HQ; have g2_0 : Blk (wq.setRow (w.heap.size + 1) (wv (x))) (w.heap.size + 1) (wv (x)) 24 := H151.out.all 0 _ rfl; have g2_1 : Blk (wq.setRow (w.heap.size + 1) (wv (x))) (w.heap.size) (wv (A)) 24 := H151.out.all 1 _ rfl))
              refine bodyPost_ret (results_ctt rfl _ _ (w.heap.size + 1) 24 _ _ rfl (H151.out.all 0 _ rfl) Tryd.underlying24 rfl (by rw [wv_size]; kernel_rfl)) rfl ?_
              exact ⟨ret3 rfl (by rw [HH.out]; try rfl) (by rw [HZ.out]; try rfl), H151.out.le⟩
end Go.Proofs.YtlpgflmjpdhpnaaDoor
