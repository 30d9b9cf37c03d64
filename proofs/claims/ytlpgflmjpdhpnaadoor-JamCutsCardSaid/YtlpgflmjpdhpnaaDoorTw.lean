/- Contracts of wide.Low and abacusref02.Low. -/
import Derived.Test.YtlpgflmjpdhpnaaDoorRows
import Derived.Test.YtlpgflmjpdhpnaaDoorG
import Derived.Test.YtlpgflmjpdhpnaaDoorTz
namespace Go.Proofs.YtlpgflmjpdhpnaaDoor
open Go.RowKit
set_option maxHeartbeats 4000000
set_option maxRecDepth 100000
set_option linter.unusedVariables false
set_option linter.unusedSimpArgs false
set_option exponentiation.threshold 1000
def lowW (A : Nat) : Nat := Lib.ctz 384 A
theorem lowW_spec {A : Nat} (hA : A < W384) : LowOf A 384 (lowW A) := ctz_low (by rw [← W384_two]; exact hA)
theorem lowW_le {A : Nat} (hA : A < W384) : lowW A ≤ 384 := (lowW_spec hA).2.1
theorem ctz_limb_lt {A k : Nat} (h : limb A k ≠ 0) : Lib.ctz 64 (limb A k) < 64 := by
  have hl := ctz_low (n := 64) (x := limb A k) (show limb A k < 2 ^ 64 from limb_lt A k)
  rcases Nat.lt_or_ge (Lib.ctz 64 (limb A k)) 64 with h1 | h1
  · exact h1
  · exfalso
    apply h
    apply word_ext (limb_lt A k) (by decide)
    intro j hj
    rw [hl.1 j (by omega), Nat.zero_testBit]
theorem low_limb {A k : Nat} (hA : A < W384) (hk : k < 6) (h0 : ∀ j, j < 64 * k → A.testBit j = false) (h : limb A k ≠ 0) : lowW A = 64 * k + Lib.ctz 64 (limb A k) := by
  have hl := ctz_low (n := 64) (x := limb A k) (show limb A k < 2 ^ 64 from limb_lt A k)
  have hc := ctz_limb_lt h
  refine (lowW_spec hA).unique ⟨fun j hj => ?_, by omega, fun _ => ?_⟩
  · by_cases hlt : j < 64 * k
    · exact h0 j hlt
    · have := hl.1 (j - 64 * k) (by omega)
      rwa [limb_bit, decide_eq_true (by omega), Bool.true_and, show 64 * k + (j - 64 * k) = j by omega] at this
  · have := hl.2.2 hc
    rwa [limb_bit, decide_eq_true hc, Bool.true_and] at this
theorem lowW_next {A k : Nat} (h0 : ∀ j, j < 64 * k → A.testBit j = false) (h : limb A k = 0) : ∀ j, j < 64 * (k + 1) → A.testBit j = false := by
  intro j hj
  by_cases hlt : j < 64 * k
  · exact h0 j hlt
  · have := limb_bit A k (j - 64 * k)
    rw [h, Nat.zero_testBit, decide_eq_true (by omega), Bool.true_and, show 64 * k + (j - 64 * k) = j by omega] at this
    exact this.symm
theorem low_none {A : Nat} (hA : A < W384) (h0 : ∀ j, j < 64 * 6 → A.testBit j = false) : lowW A = 384 :=
  (lowW_spec hA).unique ⟨fun j hj => h0 j hj, Nat.le_refl _, fun h => absurd h (Nat.lt_irrefl _)⟩
theorem right_lost {A c : Nat} (hA : A < W384) : A % 2 ^ c ≠ 0 ↔ (A ≠ 0 ∧ lowW A < c) := by
  have hl := lowW_spec hA
  constructor
  · intro h
    refine ⟨fun h0 => h (by rw [h0, Nat.zero_mod]), ?_⟩
    rcases Nat.lt_or_ge (lowW A) c with h1 | h1
    · exact h1
    · exfalso
      apply h
      apply Nat.eq_of_testBit_eq
      intro j
      rw [Nat.testBit_mod_two_pow, Nat.zero_testBit]
      by_cases hj : j < c
      · rw [hl.1 j (by omega), Bool.and_false]
      · rw [decide_eq_false hj, Bool.false_and]
  · rintro ⟨h0, h1⟩ h
    have hne : lowW A < 384 := by
      rcases Nat.lt_or_ge (lowW A) 384 with h2 | h2
      · exact h2
      · exfalso
        apply h0
        apply Nat.eq_of_testBit_eq
        intro j
        rw [Nat.zero_testBit]
        by_cases hj : j < 384
        · exact hl.1 j (by omega)
        · exact Nat.testBit_lt_two_pow (Nat.lt_of_lt_of_le hA (by rw [W384_two]; exact Nat.pow_le_pow_right (by decide) (by omega)))
    have h2 := hl.2.2 hne
    have h3 : (A % 2 ^ c).testBit (lowW A) = true := by rw [Nat.testBit_mod_two_pow, decide_eq_true h1, h2]; rfl
    rw [h, Nat.zero_testBit] at h3
    cases h3
theorem wlow_c (A : Nat) (w : World) (hA : A < W384) (hT : Tab w) : Calls Tryd.prog 31 #[.agg (wv A)] w fun e w' => e = .returned (.int .i64 (lowW A : Nat)) ∧ Below w.heap.size w w' := by
  have HA := Lib.hid hA
  have hb : Below w.heap.size w (w.alloc (.cells (wv A) 24)) := (Below.refl _ _).alloc (Nat.le_refl _) _
  have HT := Lib.hid (hT.below hb)
  have HB := Lib.hid hb
  have hB : Blk (w.alloc (.cells (wv A) 24)) w.heap.size (wv A) 24 := Blk.new _ _ _
  clear hA hT hb
  go_enter Tryd.func31, Tryd.ntmps31
  go_wp2_with (refine wpList_load_wv rfl 24 _ rfl w.heap.size rfl 24 A _ hB Tryd.underlying24 rfl (by kernel_rfl) ?_)
  clear hB
  go_loop [6] (fun i => ∃ k : Nat, k ≤ 6 ∧ i = .int .i64 k ∧ Hid (∀ j, j < 64 * k → A.testBit j = false)) (fun i => 6 - (intOf i).toNat)
  case atStart => exact ⟨0, by omega, rfl, Lib.hid (fun j hj => by omega)⟩
  case round =>
    obtain ⟨k, hk, rfl, HZ⟩ := hrel
    by_cases hlt : k < 6
    · by_cases h0 : limb A k = 0
      · have HZ2 := Lib.hid (lowW_next HZ.out h0)
        have HX := Lib.hid h0
        clear HZ h0
        go_wp2_with ((refine wpList_index_cells rfl 24 _ _ rfl 6 (limb A) k _ rfl rfl hlt Tryd.underlying24 Tryd.underlying22 (by kernel_rfl) ?_); rw [HX.out])
        go_round
        case rel => exact ⟨k + 1, by omega, by go_num, HZ2⟩
        case measure => (simp [intOf]; try omega)
      · have HE := Lib.hid (low_limb HA.out hlt HZ.out h0)
        have hc := ctz_limb_lt h0
        obtain ⟨x, hx⟩ : ∃ x, limb A k = x := ⟨_, rfl⟩
        have hxl := limb_lt A k
        rw [hx] at HE hc h0 hxl
        have HX := Lib.hid hx
        obtain ⟨c, hcc⟩ : ∃ c, Lib.ctz 64 x = c := ⟨_, rfl⟩
        have C : Hid (Calls Tryd.prog 52 #[.int .u64 (x : Nat)] (w.alloc (.cells (wv A) 24)) fun e w' => e = .returned (.int .i64 (c : Nat)) ∧ w' = (w.alloc (.cells (wv A) 24))) := Lib.hid (by
          have := low_c x _ hxl HT.out; rwa [hcc] at this)
        rw [hcc] at HE hc
        have h0i : ((x : Nat) : Int) ≠ 0 := by omega
        clear HZ h0 hx hcc hxl
        go_wp2_with (first
          | ((refine wpList_index_cells rfl 24 _ _ rfl 6 (limb A) k _ rfl rfl hlt Tryd.underlying24 Tryd.underlying22 (by kernel_rfl) ?_); rw [HX.out])
          | (go_at_call 52; (with_reducible refine C.out.mono ?_); rintro e w' ⟨rfl, rfl⟩))
        go_ret
        exact ⟨ret1 (vint (by rw [HE.out]; omega)), HB.out⟩
    · obtain rfl : k = 6 := by omega
      have HE := Lib.hid (low_none HA.out HZ.out)
      clear HZ hlt
      go_wp2
      go_ret
      exact ⟨ret1 (by rw [HE.out]; try rfl), HB.out⟩
theorem rlow2_c (A : Nat) (w : World) (hA : A < W384) : Calls Tryd.prog 32 #[.agg (wv A)] w fun e w' => e = .returned (.int .i64 (lowW A : Nat)) ∧ Below w.heap.size w w' := by
  have HA := Lib.hid hA
  have hb : Below w.heap.size w (w.alloc (.cells (wv A) 24)) := (Below.refl _ _).alloc (Nat.le_refl _) _
  have HB := Lib.hid hb
  have hB := Lib.hid (show Blk (w.alloc (.cells (wv A) 24)) w.heap.size (wv A) 24 from Blk.new _ _ _)
  clear hA hb
  go_enter Tryd.func32, Tryd.ntmps32
  go_wp2
  go_loop [3] (fun i => ∃ k : Nat, k ≤ 6 ∧ i = .int .i64 k ∧ Hid (∀ j, j < 64 * k → A.testBit j = false)) (fun i => 6 - (intOf i).toNat)
  case atStart => exact ⟨0, by omega, rfl, Lib.hid (fun j hj => by omega)⟩
  case round =>
    obtain ⟨k, hk, rfl, HZ⟩ := hrel
    by_cases hlt : k < 6
    · have c1 : (w.alloc (.cells (wv A) 24)).cell? ⟨w.heap.size, k, none⟩ = some (.int .u64 (limb A k : Nat)) := (hB.out.cell k).trans (wv_get _ _ hlt)
      by_cases h0 : limb A k = 0
      · have HZ2 := Lib.hid (lowW_next HZ.out h0)
        rw [h0] at c1
        clear HZ h0
        go_wp2
        go_round
        case rel => exact ⟨k + 1, by omega, by go_num, HZ2⟩
        case measure => (simp [intOf]; try omega)
      · have HE := Lib.hid (low_limb HA.out hlt HZ.out h0)
        have hc := ctz_limb_lt h0
        obtain ⟨x, hx⟩ : ∃ x, limb A k = x := ⟨_, rfl⟩
        have hxl := limb_lt A k
        rw [hx] at HE hc h0 hxl c1
        obtain ⟨c, hcc⟩ : ∃ c, Lib.ctz 64 x = c := ⟨_, rfl⟩
        have C : Hid (∀ W, Calls Tryd.prog 53 #[.int .u64 (x : Nat)] W fun e w' => e = .returned (.int .i64 (c : Nat)) ∧ w' = W) := Lib.hid fun W => by
          have := rlow_c x W hxl; rwa [hcc] at this
        rw [hcc] at HE hc
        have h0i : ((x : Nat) : Int) ≠ 0 := by omega
        clear HZ h0 hx hcc hxl
        go_wp2_with (go_at_call 53; (with_reducible refine (C.out _).mono ?_); rintro e w' ⟨rfl, rfl⟩)
        go_ret
        exact ⟨ret1 (vint (by rw [HE.out]; omega)), HB.out⟩
    · obtain rfl : k = 6 := by omega
      have HE := Lib.hid (low_none HA.out HZ.out)
      clear HZ hlt
      go_wp2
      go_ret
      exact ⟨ret1 (by rw [HE.out]; try rfl), HB.out⟩
end Go.Proofs.YtlpgflmjpdhpnaaDoor
