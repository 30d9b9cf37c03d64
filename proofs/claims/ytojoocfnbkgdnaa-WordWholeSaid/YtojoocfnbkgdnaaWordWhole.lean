/- The law WordWhole returns true for every input. -/
import Derived.Test.YtojoocfnbkgdnaaA
import Derived.Test.YtojoocfnbkgdnaaV
import Derived.Test.YtojoocfnbkgdnaaS
namespace Go.Proofs.Ytojoocfnbkgdnaa
open Go.RowKit
set_option maxHeartbeats 4000000
set_option maxRecDepth 100000
set_option linter.unusedVariables false
set_option linter.unusedSimpArgs false
theorem whole_div (hi lo b : Nat) (h : hi < b) (hb : b < 18446744073709551616) (hlo : lo < 18446744073709551616) :
    (hi * 18446744073709551616 + lo) / b < 18446744073709551616 ∧ (hi * 18446744073709551616 + lo) % b < b := by
  refine ⟨?_, Nat.mod_lt _ (by omega)⟩
  rw [Nat.div_lt_iff_lt_mul (by omega)]
  have : (hi + 1) * 18446744073709551616 ≤ b * 18446744073709551616 := Nat.mul_le_mul_right _ h
  omega
theorem whole_back (hi lo b q r : Nat) (hlo : lo < 18446744073709551616) (hh : hi < 18446744073709551616) (h : q * b + r = hi * 18446744073709551616 + lo) (hr : r < 18446744073709551616) :
    addv (mull q b) r false = lo ∧ addv (mulh q b) 0 (addc (mull q b) r false) = hi := by
  unfold mull mulh addv addc
  generalize q * b = p at *
  simp only [Bool.toNat_false, Nat.add_zero]
  by_cases hc : 18446744073709551616 ≤ p % 18446744073709551616 + r
  · rw [decide_eq_true hc]; simp only [Bool.toNat_true]; omega
  · rw [decide_eq_false hc]; simp only [Bool.toNat_false]; omega
theorem walk_WordWhole (hi lo b : Int) (w0 : (Lit.int .u64 hi).wf = true) (w1 : (Lit.int .u64 lo).wf = true) (w2 : (Lit.int .u64 b).wf = true) (w : World) :
    Calls Try.prog 9 #[.int .u64 hi, .int .u64 lo, .int .u64 b] w fun e w' => e = .returned (.bool true) ∧ Below w.heap.size w w' := by
  obtain ⟨hi, rfl, hh⟩ := nat_u64 w0
  obtain ⟨lo, rfl, hl⟩ := nat_u64 w1
  obtain ⟨b, rfl, hb⟩ := nat_u64 w2
  have hL := Lib.hid hl
  have hB := Lib.hid hb
  have hH := Lib.hid hh
  clear hh hl hb w0 w1 w2
  obtain ⟨⟨hr1, hr2⟩, hr3⟩ := isqrt_root lo hL.out
  have S1 := Lib.hid (fun W => sqrt_e lo W hL.out)
  generalize isqrt lo = r at *
  generalize lo - r * r = s at *
  have hs : s < 8589934592 := by omega
  have f1 : IntKind.u64.wrap (IntKind.u64.wrap ((r : Int) * r) + s) = (lo : Int) := by
    have h := hL.out
    rw [← Int.natCast_mul, wrap_lt (r * r) (by omega), ← Int.natCast_add, hr1, wrap_lt lo h]
  have h4 : r ≤ 4294967295 := by omega
  clear hr1 hr3
  by_cases h : hi < b
  · have D1 := Lib.hid (fun W => div_c hi lo b W h hB.out hL.out)
    obtain ⟨hq, hrr⟩ := whole_div hi lo b h hB.out hL.out
    have hqb : (hi * 18446744073709551616 + lo) / b * b + (hi * 18446744073709551616 + lo) % b = hi * 18446744073709551616 + lo := by
      rw [Nat.mul_comm]; exact Nat.div_add_mod _ _
    generalize (hi * 18446744073709551616 + lo) / b = q at *
    generalize (hi * 18446744073709551616 + lo) % b = t at *
    have ht : t < 18446744073709551616 := by have := hB.out; omega
    obtain ⟨k1, k2⟩ := whole_back hi lo b q t hL.out hH.out hqb ht
    obtain ⟨mh, hmh⟩ : ∃ mh, mulh q b = mh := ⟨_, rfl⟩
    obtain ⟨ml, hml⟩ : ∃ ml, mull q b = ml := ⟨_, rfl⟩
    obtain ⟨cc, hcc⟩ : ∃ cc, addc ml t false = cc := ⟨_, rfl⟩
    rw [hml] at k1 k2
    rw [hmh, hcc] at k2
    have M1 : Hid (∀ W, Calls Try.prog 10 #[.int .u64 q, .int .u64 b] W fun e w' => e = .returned (.tuple #[.int .u64 (mh : Nat), .int .u64 (ml : Nat)]) ∧ w' = W) := Lib.hid (fun W => by have := mul_c q b W hq hB.out; rwa [hmh, hml] at this)
    have A1 : Hid (∀ W, Calls Try.prog 13 #[.int .u64 ml, .int .u64 t, .bool false] W fun e w' => e = .returned (.tuple #[.int .u64 (lo : Nat), .bool cc]) ∧ w' = W) := Lib.hid (fun W => by have := add_c ml t false W (by rw [← hml]; exact mull_lt q b) ht; rwa [k1, hcc] at this)
    have A2 : Hid (∃ cd, ∀ W, Calls Try.prog 13 #[.int .u64 mh, .int .u64 0, .bool cc] W fun e w' => e = .returned (.tuple #[.int .u64 (hi : Nat), .bool cd]) ∧ w' = W) := Lib.hid ⟨addc mh 0 cc, fun W => by have := add_c mh 0 cc W (by rw [← hmh]; exact mulh_lt q b hq hB.out) (by decide); rwa [k2] at this⟩
    obtain ⟨cd, A2⟩ := A2.out
    replace A2 := Lib.hid A2
    have hnle : ¬ b ≤ hi := by omega
    have hnle2 : ¬ b ≤ t := by omega
    clear hq hqb ht k1 k2 hmh hml hcc h hrr
    go_enter Try.func9, Try.ntmps9
    go_wp2_with (first
      | (go_at_call 29; (with_reducible refine (S1.out _).mono ?_); rintro e w' ⟨rfl, rfl⟩)
      | (go_at_call 27; (with_reducible refine (D1.out _).mono ?_); rintro e w' ⟨rfl, rfl⟩)
      | (go_at_call 10; (with_reducible refine (M1.out _).mono ?_); rintro e w' ⟨rfl, rfl⟩)
      | (go_at_call 13; (with_reducible refine (A1.out _).mono ?_); rintro e w' ⟨rfl, rfl⟩)
      | (go_at_call 13; (with_reducible refine (A2.out _).mono ?_); rintro e w' ⟨rfl, rfl⟩)
      | (go_at_call 12; (with_reducible refine (alive_c _).mono ?_); rintro e w' ⟨rfl, rfl⟩))
    go_ret
    exact ⟨rfl, Below.refl _ _⟩
  · have D1 := Lib.hid (fun W => div_ge hi lo b W (by omega))
    have hge : b ≤ hi := by omega
    clear h
    go_enter Try.func9, Try.ntmps9
    go_wp2_with (first
      | (go_at_call 29; (with_reducible refine (S1.out _).mono ?_); rintro e w' ⟨rfl, rfl⟩)
      | (go_at_call 27; (with_reducible refine (D1.out _).mono ?_); rintro e w' ⟨rfl, rfl⟩)
      | (go_at_call 12; (with_reducible refine (alive_c _).mono ?_); rintro e w' ⟨rfl, rfl⟩))
    go_ret
    exact ⟨rfl, Below.refl _ _⟩
end Go.Proofs.Ytojoocfnbkgdnaa
