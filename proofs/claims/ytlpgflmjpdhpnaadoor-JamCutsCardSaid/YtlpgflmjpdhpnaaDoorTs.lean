/- The contract of abacusref02.Right. -/
import Derived.Test.YtlpgflmjpdhpnaaDoorRows
import Derived.Test.YtlpgflmjpdhpnaaDoorE
import Derived.Test.YtlpgflmjpdhpnaaDoorB
import Derived.Test.YtlpgflmjpdhpnaaDoorXi
namespace Go.Proofs.YtlpgflmjpdhpnaaDoor
open Go.RowKit
set_option maxHeartbeats 4000000
set_option maxRecDepth 100000
set_option linter.unusedVariables false
set_option linter.unusedSimpArgs false
set_option exponentiation.threshold 1000
theorem rright2_c (A : Nat) (n : Int) (w : World) (hA : A < W384) : Calls Tryd.prog 28 #[.agg (wv A), .int .i64 n] w fun e w' => e = .returned (.tuple #[.agg (wv (A / 2 ^ (clamp n 384))), .bool (decide (A % 2 ^ (clamp n 384) ≠ 0))]) ∧ Below w.heap.size w w' := by
  have hc := clamp_le n 384
  obtain ⟨c, hcc⟩ : ∃ c, clamp n 384 = c := ⟨_, rfl⟩
  have C1 : Hid (∀ W, Calls Tryd.prog 48 #[.int .i64 n] W fun e w' => e = .returned (.int .i64 (c : Nat)) ∧ w' = W) := Lib.hid fun W => by rw [← hcc]; exact rcount2_c n W
  rw [hcc] at hc ⊢
  clear hcc
  have C2 : Hid (∀ (k : Nat), k < 384 → ∀ W, Calls Tryd.prog 34 #[.agg (wv A), .int .i64 (k : Nat)] W fun e w' => e = .returned (.bool (A.testBit k)) ∧ Below W.heap.size W w') := Lib.hid fun k hk W => by
    have := rbit2_c A k W
    rwa [bitW_nat A k hk] at this
  have HM := Lib.hid (mod_all hA)
  have HA := Lib.hid hA
  clear hA
  go_enter Tryd.func28, Tryd.ntmps28
  have HS : Hid (Blks [(wv A, 24), (wv 0, 24), (wv 0, 24)] w.heap.size w (((w.alloc (.cells (wv A) 24)).alloc (.cells (wv 0) 24)).alloc (.cells (wv 0) 24))) := Lib.hid ((((Blks.nil w).alloc rfl _ _).alloc (by simp) _ _).alloc (by simp) _ _)
  rw [wv_zero] at HS
  go_wp2_with (first
    | (go_at_call 48; (with_reducible refine (C1.out _).mono ?_); rintro e w' ⟨rfl, rfl⟩))
  rw [← wv_zero] at HS
  go_loopw [7, 8] (fun o i wr => ∃ (k : Nat) (z : Bool), k ≤ 384 ∧ i = .int .i64 k ∧ o = .bool z ∧ Hid (z = decide (A % 2 ^ k % 2 ^ c ≠ 0)) ∧ Blks [(wv A, 24), (wv 0, 24), (wv (A % 2 ^ k / 2 ^ c), 24)] w.heap.size w wr) (fun _ i _ => 384 - (intOf i).toNat)
  case atStart =>
    refine ⟨0, false, by omega, rfl, rfl, Lib.hid ((right_zero A c).2), ?_⟩
    rw [(right_zero A c).1, wv_zero]
    rw [wv_zero] at HS
    exact HS.out
  case round =>
    clear HS
    obtain ⟨k, z, hk, rfl, rfl, HZ, HT⟩ := hrel
    replace HT := Lib.hid HT
    by_cases hlt : k < 384
    · have hB : Blk wr w.heap.size (wv A) 24 := HT.out.all 0 _ rfl
      cases hb : A.testBit k with
      | false =>
        have hbs := Lib.hid (mod_bit_false hb)
        have C3 : Hid (∀ W, Calls Tryd.prog 34 #[.agg (wv A), .int .i64 (k : Nat)] W fun e w' => e = .returned (.bool false) ∧ Below W.heap.size W w') := Lib.hid fun W => by have := C2.out k hlt W; rwa [hb] at this
        clear hb
        go_wp2_with (first
          | (refine wpList_load_blk rfl 24 _ rfl (w.heap.size) rfl 24 (wv A) _ (hB) Tryd.underlying24 rfl (by kernel_rfl) ?_)
          | (go_at_call 34; (with_reducible refine (C3.out _).mono ?_); rintro e w1 ⟨rfl, b1⟩; clear C3; have H1 := Lib.hid (HT.out.call ((HT.out.all 2 _ rfl).lt) b1); clear b1 HT hB))
        go_roundw
        case rel => exact ⟨k + 1, _, by omega, by go_num, rfl, Lib.hid (by rw [hbs.out]; exact HZ.out), by rw [hbs.out]; exact H1.out⟩
        case measure => (simp [intOf]; try omega)
      | true =>
        have C3 : Hid (∀ W, Calls Tryd.prog 34 #[.agg (wv A), .int .i64 (k : Nat)] W fun e w' => e = .returned (.bool true) ∧ Below W.heap.size W w') := Lib.hid fun W => by have := C2.out k hlt W; rwa [hb] at this
        by_cases hin : c ≤ k
        · have ⟨h1, h2, h3⟩ := right_in hb hin
          obtain ⟨m, hm⟩ : ∃ m, k - c = m := ⟨_, rfl⟩
          rw [hm] at h1 h2
          have hm4 : m < 384 := by omega
          have K1 : (k : Int) - (c : Int) = (m : Int) := by omega
          have hini : (c : Int) ≤ (k : Int) := by omega
          obtain ⟨T, hT⟩ : ∃ T, A % 2 ^ k / 2 ^ c = T := ⟨_, rfl⟩
          rw [hT] at h1 h2 HT
          have f1 := or_bit T m hm4 h2
          have hV : ∀ W, Blks [(wv A, 24), (wv 0, 24), (wv T, 24)] w.heap.size w W → Blks [(wv A, 24), (wv 0, 24), (wv (T + 2 ^ m), 24)] w.heap.size w (W.setCell ⟨w.heap.size + 1 + 1, m / 64, none⟩ (.int .u64 (limb (T + 2 ^ m) (m / 64) : Nat))) := fun W hW => by
            have := hW.setCell 2 (m / 64) (.int .u64 (limb (T + 2 ^ m) (m / 64) : Nat)) _ _ rfl
            rwa [wv_bit h2] at this
          have hmi : m / 64 < 6 := by omega
          have HR := Lib.hid h1
          have HO : Hid (z = decide (A % 2 ^ (k + 1) % 2 ^ c ≠ 0)) := Lib.hid (by rw [HZ.out, h3])
          have hV' := Lib.hid hV
          clear hV h1 h2 hb hT hm hin h3
          obtain ⟨y, hy⟩ : ∃ y, limb (T + 2 ^ m) (m / 64) = y := ⟨_, rfl⟩
          rw [hy] at f1 hV'
          clear hy
          go_wp2_with (first
            | (refine wpList_load_blk rfl 24 _ rfl (w.heap.size) rfl 24 (wv A) _ (hB) Tryd.underlying24 rfl (by kernel_rfl) ?_)
            | (go_at_call 34; (with_reducible refine (C3.out _).mono ?_); rintro e w1 ⟨rfl, b1⟩; clear C3; have H1 := Lib.hid (HT.out.call ((HT.out.all 2 _ rfl).lt) b1); clear b1 HT hB; have c1 : w1.cell? ⟨w.heap.size + 1 + 1, m / 64, none⟩ = some (.int .u64 (limb T (m / 64) : Nat)) := ((H1.out.all 2 _ rfl).cell _).trans (wv_get _ _ hmi); have c2 : w1.frozen? ⟨w.heap.size + 1 + 1, m / 64, none⟩ = false := (H1.out.all 2 _ rfl).frozen _; have H2 := Lib.hid (hV'.out _ H1.out); clear H1 hV'))
          go_roundw
          case rel => exact ⟨k + 1, _, by omega, by go_num, rfl, HO, by rw [HR.out]; exact H2.out⟩
          case measure => (simp [intOf]; try omega)
        · have ⟨h1, h2⟩ := right_out hb (Nat.lt_of_not_le hin)
          have hini : ¬ (c : Int) ≤ (k : Int) := by omega
          have HO : Hid (true = decide (A % 2 ^ (k + 1) % 2 ^ c ≠ 0)) := Lib.hid (by rw [decide_eq_true h2])
          have HR := Lib.hid h1
          clear h1 h2 hb hin HZ
          go_wp2_with (first
            | (refine wpList_load_blk rfl 24 _ rfl (w.heap.size) rfl 24 (wv A) _ (hB) Tryd.underlying24 rfl (by kernel_rfl) ?_)
            | (go_at_call 34; (with_reducible refine (C3.out _).mono ?_); rintro e w1 ⟨rfl, b1⟩; clear C3; have H1 := Lib.hid (HT.out.call ((HT.out.all 2 _ rfl).lt) b1); clear b1 HT hB))
          go_roundw
          case rel => exact ⟨k + 1, _, by omega, by go_num, rfl, HO, by rw [HR.out]; exact H1.out⟩
          case measure => (simp [intOf]; try omega)
    · obtain rfl : k = 384 := by omega
      rw [HM.out] at HT HZ
      clear hlt
      go_wp2_with (first
        | (refine wpList_load_blk rfl 24 _ rfl (w.heap.size + 1 + 1) rfl 24 (wv (A / 2 ^ (c))) _ (HT.out.all 2 _ rfl) Tryd.underlying24 rfl (by kernel_rfl) ?_)
        | (refine wpList_store_blk rfl 24 _ _ rfl (w.heap.size + 1) (wv (A / 2 ^ (c))) rfl rfl 24 (wv 0) (HT.out.all 1 _ rfl) (by kernel_rfl) rfl (wv_one _) ?_))
      refine bodyPost_ret (results_cell_tmp rfl _ _ (w.heap.size + 1) 24 (wv (A / 2 ^ (c))) _ rfl ((HT.out.setRow 1 (wv (A / 2 ^ (c))) _ _ rfl).all 1 _ rfl) Tryd.underlying24 rfl (by kernel_rfl)) rfl ?_
      exact ⟨ret2 rfl (vbool HZ.out), (HT.out.setRow 1 (wv (A / 2 ^ (c))) _ _ rfl).le⟩
end Go.Proofs.YtlpgflmjpdhpnaaDoor
