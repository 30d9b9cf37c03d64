/- The contract of abacusref04.Cut for any count. -/
import Derived.Test.YtlpgflmjpdhpnaaDoorRows
import Derived.Test.YtlpgflmjpdhpnaaDoorJd
namespace Go.Proofs.YtlpgflmjpdhpnaaDoor
open Go.RowKit
set_option maxHeartbeats 4000000
set_option maxRecDepth 100000
set_option linter.unusedVariables false
set_option linter.unusedSimpArgs false
set_option exponentiation.threshold 1000
set_option exponentiation.threshold 400
theorem cutH_zero (A : Nat) : cutH A 0 = -1 := if_pos (Or.inl rfl)
theorem cutH_all (A : Nat) : cutH A 385 = -1 := if_pos (Or.inr (Or.inl rfl))
theorem rcut4_c (A : Nat) (n : Int) (w : World) (hA : A < W384) : Calls Tryd.prog 13 #[.agg (wv A), .int .i64 n] w fun e w' => e = .returned (.tuple #[.agg (wv (A / 2 ^ clamp n 385)), .int .i64 (cutH A (clamp n 385)), .bool (decide (A % 2 ^ clamp n 385 = 0))]) ∧ Below w.heap.size w w' := by
  by_cases hz : n ≤ 0
  · rw [show clamp n 385 = 0 by unfold clamp; omega, cutH_zero, Nat.pow_zero, Nat.div_one, Nat.mod_one, show decide (0 = 0) = true from rfl]
    by_cases hn : n < 0
    · exact rcut4_neg A n hA hn w
    · obtain rfl : n = 0 := by omega
      exact rcut4_zero A hA w
  · by_cases hb : 385 ≤ n
    · rw [show clamp n 385 = 385 by unfold clamp; omega, cutH_all]
      by_cases hn : 385 < n
      · exact rcut4_big A n hA hn w
      · obtain rfl : n = 385 := by omega
        exact rcut4_all A hA w
    · obtain ⟨c, rfl⟩ : ∃ c : Nat, n = (c : Int) := ⟨n.toNat, by omega⟩
      rw [show clamp (c : Int) 385 = c by unfold clamp; omega]
      cases ht : A.testBit (c - 1)
      · exact rcut4_a A c hA (by omega) (by omega) ht w
      · by_cases hr : A % 2 ^ (c - 1) = 0
        · exact rcut4_b A c hA (by omega) (by omega) ht hr w
        · exact rcut4_mid A c hA (by omega) (by omega) ht hr w
end Go.Proofs.YtlpgflmjpdhpnaaDoor
