/- Contracts of Of, OfBits, ToBits (wide and abacusref02). -/
import Derived.Test.YtlpgflmjpdhpnaaRows
import Derived.Test.YtlpgflmjpdhpnaaE
namespace Go.Proofs.Ytlpgflmjpdhpnaa
open Go.RowKit
set_option maxHeartbeats 4000000
set_option maxRecDepth 100000
set_option linter.unusedVariables false
set_option linter.unusedSimpArgs false
theorem wv_set0 (x : Nat) (hx : x < 18446744073709551616) : (wv 0).setIfInBounds 0 (.int .u64 (x : Nat)) = wv x := by
  have := wv_top (S := 0) (k := 0) (x := x) (by decide) hx
  rwa [Bk_zero, Nat.mul_one, Nat.zero_add] at this
theorem wv_set1 (x y : Nat) (hx : x < 18446744073709551616) (hy : y < 18446744073709551616) : (wv x).setIfInBounds 1 (.int .u64 (y : Nat)) = wv (x + y * Bk 1) :=
  wv_top (S := x) (k := 1) (x := y) (by rw [pow_succ64, Bk_zero]; omega) hy
theorem wv_two (x y : Nat) (hx : x < 18446744073709551616) (hy : y < 18446744073709551616) : wv (x + y * Bk 1) = #[.int .u64 (x : Nat), .int .u64 (y : Nat), .int .u64 0, .int .u64 0, .int .u64 0, .int .u64 0] := by
  rw [← wv_set1 x y hx hy, ← wv_set0 x hx, wv_zero]; rfl
theorem rof2_c (x : Nat) (w : World) (hx : x < 18446744073709551616) : Calls Try.prog 31 #[.int .u64 (x : Nat)] w fun e w' => e = .returned (.agg (wv x)) ∧ Below w.heap.size w w' := by
  have e : wv x = #[.int .u64 (x : Nat), .int .u64 0, .int .u64 0, .int .u64 0, .int .u64 0, .int .u64 0] := by rw [← wv_set0 x hx, wv_zero]; rfl
  have E := Lib.hid e
  clear e hx
  go_enter Try.func31, Try.ntmps31
  go_wp2
  refine bodyPost_ret (results_cell rfl _ _ w.heap.size 24 _ _ rfl ((Blk.new w _ 24).alloc _) Try.underlying24 rfl (by kernel_rfl)) rfl ?_
  exact ⟨ret1 (by rw [E.out]), ((Below.refl _ _).alloc (Nat.le_refl _) _).alloc (by simp) _⟩
theorem wofbits_c (h l : Nat) (w : World) (hh : h < 18446744073709551616) (hl : l < 18446744073709551616) : Calls Try.prog 32 #[.agg #[.int .u64 (h : Nat), .int .u64 (l : Nat)]] w fun e w' => e = .returned (.agg (wv (l + h * Bk 1))) ∧ Below w.heap.size w w' := by
  have E := Lib.hid (wv_two l h hl hh)
  clear hh hl
  go_enter Try.func32, Try.ntmps32
  go_wp2
  refine bodyPost_ret (results_cell rfl _ _ (w.heap.size + 1) 24 _ _ rfl (Blk.newAt _ _ 24 (by simp)) Try.underlying24 rfl (by kernel_rfl)) rfl ?_
  exact ⟨ret1 (by rw [E.out]), ((Below.refl _ _).alloc (Nat.le_refl _) _).alloc (by simp) _⟩
theorem rofbits_c (h l : Nat) (w : World) (hh : h < 18446744073709551616) (hl : l < 18446744073709551616) : Calls Try.prog 33 #[.agg #[.int .u64 (h : Nat), .int .u64 (l : Nat)]] w fun e w' => e = .returned (.agg (wv (l + h * Bk 1))) ∧ Below w.heap.size w w' := by
  have E := Lib.hid (wv_two l h hl hh)
  clear hh hl
  go_enter Try.func33, Try.ntmps33
  go_wp2
  refine bodyPost_ret (results_cell rfl _ _ (w.heap.size + 1) 24 _ _ rfl ((Blk.newAt _ _ 24 (by simp)).alloc _) Try.underlying24 rfl (by kernel_rfl)) rfl ?_
  exact ⟨ret1 (by rw [E.out]), (((Below.refl _ _).alloc (Nat.le_refl _) _).alloc (by simp) _).alloc (by simp; omega) _⟩
theorem wv_six (A : Nat) : wv A = #[.int .u64 (limb A 0 : Nat), .int .u64 (limb A 1 : Nat), .int .u64 (limb A 2 : Nat), .int .u64 (limb A 3 : Nat), .int .u64 (limb A 4 : Nat), .int .u64 (limb A 5 : Nat)] := rfl
def Fits (A : Nat) : Prop := limb A 2 = 0 ∧ limb A 3 = 0 ∧ limb A 4 = 0 ∧ limb A 5 = 0
instance (A : Nat) : Decidable (Fits A) := by unfold Fits; infer_instance
def hiB (A : Nat) : Nat := if Fits A then limb A 1 else 0
def loB (A : Nat) : Nat := if Fits A then limb A 0 else 0
theorem or_zero (a b : Nat) : a ||| b = 0 ↔ a = 0 ∧ b = 0 := Nat.or_eq_zero_iff
theorem wtobits_c (A : Nat) (w : World) : Calls Try.prog 28 #[.agg (wv A)] w fun e w' => e = .returned (.tuple #[.agg #[.int .u64 (hiB A : Nat), .int .u64 (loB A : Nat)], .bool (decide (Fits A))]) ∧ Below w.heap.size w w' := by
  have h2 := limb_lt A 2
  have h3 := limb_lt A 3
  have h4 := limb_lt A 4
  have h5 := limb_lt A 5
  have f1 := or_nat (limb A 2) (limb A 3) h2 h3
  have f2 := or_nat (limb A 2 ||| limb A 3) (limb A 4) (Nat.or_lt_two_pow (n := 64) h2 h3) h4
  have f3 := or_nat (limb A 2 ||| limb A 3 ||| limb A 4) (limb A 5) (Nat.or_lt_two_pow (n := 64) (Nat.or_lt_two_pow (n := 64) h2 h3) h4) h5
  have hz : Fits A ↔ limb A 2 ||| limb A 3 ||| limb A 4 ||| limb A 5 = 0 := by
    unfold Fits
    rw [or_zero, or_zero, or_zero]
    constructor
    · rintro ⟨a, b, c, d⟩; exact ⟨⟨⟨a, b⟩, c⟩, d⟩
    · rintro ⟨⟨⟨a, b⟩, c⟩, d⟩; exact ⟨a, b, c, d⟩
  clear h2 h3 h4 h5
  rw [wv_six]
  by_cases hF : Fits A
  · have e1 : hiB A = limb A 1 := if_pos hF
    have e2 : loB A = limb A 0 := if_pos hF
    have e3 : decide (Fits A) = true := decide_eq_true hF
    rw [e1, e2, e3]
    rw [hz.1 hF] at f3
    clear e1 e2 e3 hF hz
    go_enter Try.func28, Try.ntmps28
    go_wp2
    refine bodyPost_ret (results_cell_tmp rfl _ _ (w.heap.size + 1) 44 _ _ rfl (Blk.newAt _ _ 44 (by simp)) Try.underlying44 rfl (by kernel_rfl)) rfl ?_
    exact ⟨rfl, ((Below.refl _ _).alloc (Nat.le_refl _) _).alloc (by simp) _⟩
  · have e1 : hiB A = 0 := if_neg hF
    have e2 : loB A = 0 := if_neg hF
    have e3 : decide (Fits A) = false := decide_eq_false hF
    rw [e1, e2, e3]
    obtain ⟨m, hm⟩ : ∃ m, limb A 2 ||| limb A 3 ||| limb A 4 ||| limb A 5 = m := ⟨_, rfl⟩
    have hm0 : ((m : Nat) : Int) ≠ 0 := by have : m ≠ 0 := fun h => hF (hz.2 (by rw [hm, h])); omega
    rw [hm] at f3
    clear e1 e2 e3 hF hz hm
    go_enter Try.func28, Try.ntmps28
    go_wp2
    refine bodyPost_ret (results_cell_tmp rfl _ _ (w.heap.size + 1) 44 _ _ rfl (Blk.newAt _ _ 44 (by simp)) Try.underlying44 rfl (by kernel_rfl)) rfl ?_
    exact ⟨rfl, ((Below.refl _ _).alloc (Nat.le_refl _) _).alloc (by simp) _⟩
theorem rtobits_c (A : Nat) (w : World) : Calls Try.prog 29 #[.agg (wv A)] w fun e w' => e = .returned (.tuple #[.agg #[.int .u64 (hiB A : Nat), .int .u64 (loB A : Nat)], .bool (decide (Fits A))]) ∧ Below w.heap.size w w' := by
  rw [wv_six]
  by_cases hF : Fits A
  · have e1 : hiB A = limb A 1 := if_pos hF
    have e2 : loB A = limb A 0 := if_pos hF
    have e3 : decide (Fits A) = true := decide_eq_true hF
    obtain ⟨h2, h3, h4, h5⟩ := hF
    rw [e1, e2, e3, h2, h3, h4, h5]
    clear e1 e2 e3 h2 h3 h4 h5
    go_enter Try.func29, Try.ntmps29
    go_wp2
    refine bodyPost_ret (results_cell_tmp rfl _ _ (w.heap.size + 1) 44 _ _ rfl (Blk.newAt _ _ 44 (by simp)) Try.underlying44 rfl (by kernel_rfl)) rfl ?_
    exact ⟨rfl, ((Below.refl _ _).alloc (Nat.le_refl _) _).alloc (by simp) _⟩
  · have e1 : hiB A = 0 := if_neg hF
    have e2 : loB A = 0 := if_neg hF
    have e3 : decide (Fits A) = false := decide_eq_false hF
    rw [e1, e2, e3]
    clear e1 e2 e3
    obtain ⟨a2, ha2⟩ : ∃ a, limb A 2 = a := ⟨_, rfl⟩
    obtain ⟨a3, ha3⟩ : ∃ a, limb A 3 = a := ⟨_, rfl⟩
    obtain ⟨a4, ha4⟩ : ∃ a, limb A 4 = a := ⟨_, rfl⟩
    obtain ⟨a5, ha5⟩ : ∃ a, limb A 5 = a := ⟨_, rfl⟩
    unfold Fits at hF
    rw [ha2, ha3, ha4, ha5] at hF
    rw [ha2, ha3, ha4, ha5]
    clear ha2 ha3 ha4 ha5
    by_cases h2 : a2 = 0
    · subst h2
      by_cases h3 : a3 = 0
      · subst h3
        by_cases h4 : a4 = 0
        · subst h4
          have h5 : ((a5 : Nat) : Int) ≠ 0 := by have : a5 ≠ 0 := fun h => hF ⟨rfl, rfl, rfl, h⟩; omega
          clear hF
          go_enter Try.func29, Try.ntmps29
          go_wp2
          refine bodyPost_ret (results_cell_tmp rfl _ _ (w.heap.size + 1) 44 _ _ rfl (Blk.newAt _ _ 44 (by simp)) Try.underlying44 rfl (by kernel_rfl)) rfl ?_
          exact ⟨rfl, ((Below.refl _ _).alloc (Nat.le_refl _) _).alloc (by simp) _⟩
        · have h4i : ((a4 : Nat) : Int) ≠ 0 := by omega
          clear hF h4
          go_enter Try.func29, Try.ntmps29
          go_wp2
          refine bodyPost_ret (results_cell_tmp rfl _ _ (w.heap.size + 1) 44 _ _ rfl (Blk.newAt _ _ 44 (by simp)) Try.underlying44 rfl (by kernel_rfl)) rfl ?_
          exact ⟨rfl, ((Below.refl _ _).alloc (Nat.le_refl _) _).alloc (by simp) _⟩
      · have h3i : ((a3 : Nat) : Int) ≠ 0 := by omega
        clear hF h3
        go_enter Try.func29, Try.ntmps29
        go_wp2
        refine bodyPost_ret (results_cell_tmp rfl _ _ (w.heap.size + 1) 44 _ _ rfl (Blk.newAt _ _ 44 (by simp)) Try.underlying44 rfl (by kernel_rfl)) rfl ?_
        exact ⟨rfl, ((Below.refl _ _).alloc (Nat.le_refl _) _).alloc (by simp) _⟩
    · have h2i : ((a2 : Nat) : Int) ≠ 0 := by omega
      clear hF h2
      go_enter Try.func29, Try.ntmps29
      go_wp2
      refine bodyPost_ret (results_cell_tmp rfl _ _ (w.heap.size + 1) 44 _ _ rfl (Blk.newAt _ _ 44 (by simp)) Try.underlying44 rfl (by kernel_rfl)) rfl ?_
      exact ⟨rfl, ((Below.refl _ _).alloc (Nat.le_refl _) _).alloc (by simp) _⟩
end Go.Proofs.Ytlpgflmjpdhpnaa
