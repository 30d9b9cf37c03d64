/- The law WordQuotients returns true for every input. -/
import Derived.Test.YtojoocfnbkgdnaaA
import Derived.Test.YtojoocfnbkgdnaaV
import Derived.Test.YtojoocfnbkgdnaaQ
namespace Go.Proofs.Ytojoocfnbkgdnaa
open Go.RowKit
set_option maxHeartbeats 4000000
set_option maxRecDepth 100000
set_option linter.unusedVariables false
set_option linter.unusedSimpArgs false
theorem walk_WordQuotients (a b c : Int) (w0 : (Lit.int .u64 a).wf = true) (w1 : (Lit.int .u64 b).wf = true) (w2 : (Lit.int .u64 c).wf = true) (w : World) :
    Calls Try.prog 8 #[.int .u64 a, .int .u64 b, .int .u64 c] w fun e w' => e = .returned (.bool true) ∧ Below w.heap.size w w' := by
  obtain ⟨a, rfl, ha⟩ := nat_u64 w0
  obtain ⟨b, rfl, hb⟩ := nat_u64 w1
  obtain ⟨c, rfl, hc⟩ := nat_u64 w2
  have hB := Lib.hid hb
  have hC := Lib.hid hc
  clear ha hb hc w0 w1 w2
  by_cases h : a < c
  · have h0 := Lib.hid h
    clear h
    go_enter Try.func8, Try.ntmps8
    go_wp2_with (first
      | (go_at_call 27; (with_reducible refine (div_c a b c _ h0.out hC.out hB.out).mono ?_); rintro e w' ⟨rfl, rfl⟩)
      | (go_at_call 28; (with_reducible refine (rdiv_c a b c _ h0.out hC.out hB.out).mono ?_); rintro e w' ⟨rfl, rfl⟩)
      | (go_at_call 12; (with_reducible refine (alive_c _).mono ?_); rintro e w' ⟨rfl, rfl⟩))
    go_ret
    exact ⟨rfl, Below.refl _ _⟩
  · have h0 := Lib.hid (Nat.not_lt.1 h)
    clear h
    go_enter Try.func8, Try.ntmps8
    go_wp2_with (first
      | (go_at_call 27; (with_reducible refine (div_ge a b c _ h0.out).mono ?_); rintro e w' ⟨rfl, rfl⟩)
      | (go_at_call 28; (with_reducible refine (rdiv_ge a b c _ h0.out).mono ?_); rintro e w' ⟨rfl, rfl⟩)
      | (go_at_call 12; (with_reducible refine (alive_c _).mono ?_); rintro e w' ⟨rfl, rfl⟩))
    go_ret
    exact ⟨rfl, Below.refl _ _⟩
end Go.Proofs.Ytojoocfnbkgdnaa
