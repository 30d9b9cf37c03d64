/- Contracts of word.Extend and word.Div. -/
import Derived.Test.YtojoocfnbkgdnaaW
namespace Go.Proofs.Ytojoocfnbkgdnaa
open Go.RowKit
set_option maxHeartbeats 4000000
set_option maxRecDepth 100000
set_option linter.unusedVariables false
set_option linter.unusedSimpArgs false

theorem extend_c (a : Nat) (n : Int) (w : World) (ha : a < 18446744073709551616) :
    Calls Try.prog 17 #[.int .u64 a, .int .i64 n] w fun e w' => e = .returned (.int .u64 (extv a (max 1 (clamp n 64)) : Nat)) ∧ w' = w := by
  obtain ⟨m, hm⟩ : ∃ m : Nat, max 1 (clamp n 64) = m := ⟨_, rfl⟩
  have hm1 : 1 ≤ m := by omega
  have hm2 : m ≤ 64 := by have := clamp_le n 64; omega
  have hmn : min (max n 1) 64 = (m : Int) := by rw [← hm]; unfold clamp; omega
  rw [hm]
  clear hm
  have hA := Lib.hid ha
  clear ha
  go_enter Try.func17, Try.ntmps17
  go_wp2
  go_ret
  refine ⟨ret1 (vint ?_), rfl⟩
  exact ext_word a m hm1 hm2
theorem div_ge (hi lo b : Nat) (w : World) (h : b ≤ hi) :
    Calls Try.prog 27 #[.int .u64 hi, .int .u64 lo, .int .u64 b] w fun e w' => e = .returned (.tuple #[.int .u64 0, .int .u64 0, .int .i64 2]) ∧ w' = w := by
  go_enter Try.func27, Try.ntmps27
  go_wp2
  refine wp_scope_straight ?_
  go_wp2
  simp only [Exit.noGoto]
  go_ret3
  exact ⟨rfl, rfl⟩
theorem div_c (hi lo b : Nat) (w : World) (h : hi < b) (hb : b < 18446744073709551616) (hlo : lo < 18446744073709551616) :
    Calls Try.prog 27 #[.int .u64 hi, .int .u64 lo, .int .u64 b] w fun e w' => e = .returned (.tuple #[.int .u64 ((hi * 18446744073709551616 + lo) / b : Nat), .int .u64 ((hi * 18446744073709551616 + lo) % b : Nat), .int .i64 0]) ∧ w' = w := by
  have hB := Lib.hid hb
  have hL := Lib.hid hlo
  have hst := Lib.hid (DivI.start hlo h)
  have hnle : ¬ b ≤ hi := by omega
  clear hb hlo
  go_enter Try.func27, Try.ntmps27
  go_wp2
  refine wp_scope_jumps 0 (fun a' w' => w' = w ∧ ∃ (l q r i : Nat) (u10 u11 u12 u13 u14 u15 u16 u17 u18 u19 u20 u21 u22 u23 u24 u25 u26 u27 u28 u29 u30 u31 u32 u33 u34 u35 u36 u37 u38 u39 u40 u41 : Value), a' = { tmps := #[.int .u64 hi, .int .u64 l, .int .u64 b, undef, undef, undef, .int .u64 q, .int .u64 r, .int .i64 0, .int .i64 i, u10, u11, u12, u13, u14, u15, u16, u17, u18, u19, u20, u21, u22, u23, u24, u25, u26, u27, u28, u29, u30, u31, u32, u33, u34, u35, u36, u37, u38, u39, u40, u41, undef, undef], defers := [] } ∧ i < 64 ∧ Hid (DivI hi lo b i q r) ∧ Hid (l = lo * 2 ^ i % 18446744073709551616)) (fun a' _ => 64 - (intOf (a'.tmps.getD 9 undef)).toNat) rfl ?_ ?_
  · -- FIRST
    have HL0 : Hid (lo = lo * 2 ^ 0 % 18446744073709551616) := Lib.hid (by rw [Nat.pow_zero, Nat.mul_one, Nat.mod_eq_of_lt hL.out])
    obtain ⟨x, hx⟩ : ∃ x, lo.testBit 63 = x := ⟨_, rfl⟩
    have hS := hst.out.step (by decide) hL.out hx
    have hbd := hst.out.bounds (by omega) hB.out
    have hq64 : 0 < 2 ^ 63 := Nat.lt_of_lt_of_le hst.out.2.2 (Nat.pow_le_pow_right (by decide) (by omega))
    have hrb := hst.out.2.1
    have hbb := hB.out
    have hlb := low_bit lo 0 (by decide)
    rw [← HL0.out, hx] at hlb
    have hl64 : lo < 18446744073709551616 := by rw [HL0.out]; exact Nat.mod_lt _ (by decide)
    have f1 := shl1_or hi lo hl64
    rw [hlb] at f1
    have HL1 := low_next lo 0
    rw [← HL0.out] at HL1
    have f2 := shl1 lo
    obtain ⟨l1, hl1⟩ : ∃ l1, 2 * lo % 18446744073709551616 = l1 := ⟨_, rfl⟩
    rw [hl1] at f2 HL1
    replace HL1 := Lib.hid HL1
    obtain ⟨t, ht⟩ : ∃ t, 2 * hi + x.toNat = t := ⟨_, rfl⟩
    rw [ht] at f1 hS
    have hxx := Bool.toNat_le x
    obtain ⟨s, hs⟩ : ∃ s, t % 18446744073709551616 = s := ⟨_, rfl⟩
    rw [hs] at f1
    obtain ⟨q1, hq1⟩ : ∃ q1, 2 * 0 = q1 := ⟨_, rfl⟩
    have f4 : bits .or .u64 0 1 = (1 : Int) := by decide +kernel
    rw [hq1] at hS
    obtain ⟨q2, hq2⟩ : ∃ q2, q1 + 1 = q2 := ⟨_, rfl⟩
    rw [hq2] at hS
    obtain rfl : q1 = 0 := by omega
    obtain rfl : q2 = 1 := by omega
    obtain ⟨r1, hr1⟩ : ∃ r1, t - b = r1 := ⟨_, rfl⟩
    rw [hr1] at hS
    by_cases hA : 9223372036854775808 ≤ hi
    · have g1 : (hi : Int) / 9223372036854775808 = 1 := by omega
      have f5 : IntKind.u64.wrap ((s : Int) - b) = (r1 : Int) := by rw [IntKind.wrap_u64]; omega
      have HN := Lib.hid (hS.1 (by omega))
      clear hS hbd hq64 hrb hbb hlb hl64 hl1 ht hs hr1 hA hx hxx
      go_wp2
      go_step3
      go_wp2
      go_step3
      exact ⟨rfl, rfl, l1, 1, r1, 1, _, _, _, _, _, _, _, _, _, _, _, _, _, _, _, _, _, _, _, _, _, _, _, _, _, _, _, _, _, _, _, _, rfl, by decide, HN, HL1⟩
    · have g1 : (hi : Int) / 9223372036854775808 = 0 := by omega
      have f1b : bits .or .u64 ((hi : Int) * 2) ((lo : Int) / 9223372036854775808) = (s : Int) := by
        rw [← f1, show IntKind.u64.wrap ((hi : Int) * 2) = (hi : Int) * 2 by rw [IntKind.wrap_u64]; omega]
      by_cases hge : b ≤ t
      · have hge' : b ≤ s := by omega
        have f5 : IntKind.u64.wrap ((s : Int) - b) = (r1 : Int) := by rw [IntKind.wrap_u64]; omega
        have HN := Lib.hid (hS.1 hge)
        clear hS hbd hq64 hrb hbb hlb hl64 hl1 ht hs hr1 hA hx hxx hge
        go_wp2
        go_step3
        go_wp2
        go_step3
        exact ⟨rfl, rfl, l1, 1, r1, 1, _, _, _, _, _, _, _, _, _, _, _, _, _, _, _, _, _, _, _, _, _, _, _, _, _, _, _, _, _, _, _, _, rfl, by decide, HN, HL1⟩
      · have hge' : s < b := by omega
        have HN : Hid (DivI hi lo b 1 0 s) := Lib.hid (by have := hS.2 (by omega); rwa [show t = s by omega] at this)
        clear hS hbd hq64 hrb hbb hlb hl64 hl1 ht hs hr1 hA hx hxx hge
        go_wp2
        go_step3
        go_wp2
        go_step3
        exact ⟨rfl, rfl, l1, 0, s, 1, _, _, _, _, _, _, _, _, _, _, _, _, _, _, _, _, _, _, _, _, _, _, _, _, _, _, _, _, _, _, _, _, rfl, by decide, HN, HL1⟩
  · rintro a' w' ⟨rfl, l, q, r, i, u10, u11, u12, u13, u14, u15, u16, u17, u18, u19, u20, u21, u22, u23, u24, u25, u26, u27, u28, u29, u30, u31, u32, u33, u34, u35, u36, u37, u38, u39, u40, u41, rfl, hi64, HI, HL⟩
    obtain ⟨x, hx⟩ : ∃ x, lo.testBit (63 - i) = x := ⟨_, rfl⟩
    have hS := HI.out.step hi64 hL.out hx
    have hbd := HI.out.bounds (by omega) hB.out
    have hq64 : q < 2 ^ 63 := Nat.lt_of_lt_of_le HI.out.2.2 (Nat.pow_le_pow_right (by decide) (by omega))
    have hrb := HI.out.2.1
    have hbb := hB.out
    have hlb := low_bit lo i hi64
    rw [← HL.out, hx] at hlb
    have hl64 : l < 18446744073709551616 := by rw [HL.out]; exact Nat.mod_lt _ (by decide)
    have f1 := shl1_or r l hl64
    rw [hlb] at f1
    have HL1 := low_next lo i
    rw [← HL.out] at HL1
    have f2 := shl1 l
    obtain ⟨l1, hl1⟩ : ∃ l1, 2 * l % 18446744073709551616 = l1 := ⟨_, rfl⟩
    rw [hl1] at f2 HL1
    replace HL1 := Lib.hid HL1
    obtain ⟨t, ht⟩ : ∃ t, 2 * r + x.toNat = t := ⟨_, rfl⟩
    rw [ht] at f1 hS
    have hxx := Bool.toNat_le x
    obtain ⟨s, hs⟩ : ∃ s, t % 18446744073709551616 = s := ⟨_, rfl⟩
    rw [hs] at f1
    obtain ⟨q1, hq1⟩ : ∃ q1, 2 * q = q1 := ⟨_, rfl⟩
    have f3 : IntKind.u64.wrap ((q : Int) * 2) = (q1 : Int) := by rw [IntKind.wrap_u64]; omega
    have f4 : bits .or .u64 (q1 : Int) 1 = ((q1 + 1 : Nat) : Int) := by
      have := or_one q
      rw [f3] at this
      rw [this]; omega
    rw [hq1] at hS
    obtain ⟨q2, hq2⟩ : ∃ q2, q1 + 1 = q2 := ⟨_, rfl⟩
    rw [hq2] at f4 hS
    obtain ⟨r1, hr1⟩ : ∃ r1, t - b = r1 := ⟨_, rfl⟩
    rw [hr1] at hS
    by_cases hA : 9223372036854775808 ≤ r
    · have g1 : (r : Int) / 9223372036854775808 = 1 := by omega
      have f5 : IntKind.u64.wrap ((s : Int) - b) = (r1 : Int) := by rw [IntKind.wrap_u64]; omega
      have HN := Lib.hid (hS.1 (by omega))
      clear hS hbd hq64 hrb hbb hlb hl64 hl1 ht hs hq1 hq2 hr1 hA hx hxx HI HL
      by_cases hend : i + 1 < 64
      · go_wp2
        go_step3
        exact ⟨rfl, ⟨rfl, l1, q2, r1, i + 1, _, _, _, _, _, _, _, _, _, _, _, _, _, _, _, _, _, _, _, _, _, _, _, _, _, _, _, _, _, _, _, _, rfl, hend, HN, HL1⟩, by simp [intOf]; omega⟩
      · go_wp2
        simp only [Exit.jump]
        go_ret3
        obtain ⟨e1, e2⟩ := DivI.done (by have := HN.out; rwa [show i + 1 = 64 by omega] at this)
        exact ⟨ret3 (vint (congrArg Nat.cast e1)) (vint (congrArg Nat.cast e2)) rfl, rfl⟩
    · have g1 : (r : Int) / 9223372036854775808 = 0 := by omega
      have f1b : bits .or .u64 ((r : Int) * 2) ((l : Int) / 9223372036854775808) = (s : Int) := by
        rw [← f1, show IntKind.u64.wrap ((r : Int) * 2) = (r : Int) * 2 by rw [IntKind.wrap_u64]; omega]
      by_cases hge : b ≤ t
      · have hge' : b ≤ s := by omega
        have f5 : IntKind.u64.wrap ((s : Int) - b) = (r1 : Int) := by rw [IntKind.wrap_u64]; omega
        have HN := Lib.hid (hS.1 hge)
        clear hS hbd hq64 hrb hbb hlb hl64 hl1 ht hs hq1 hq2 hr1 hA hx hxx HI HL hge
        by_cases hend : i + 1 < 64
        · go_wp2
          go_step3
          exact ⟨rfl, ⟨rfl, l1, q2, r1, i + 1, _, _, _, _, _, _, _, _, _, _, _, _, _, _, _, _, _, _, _, _, _, _, _, _, _, _, _, _, _, _, _, _, rfl, hend, HN, HL1⟩, by simp [intOf]; omega⟩
        · go_wp2
          simp only [Exit.jump]
          go_ret3
          obtain ⟨e1, e2⟩ := DivI.done (by have := HN.out; rwa [show i + 1 = 64 by omega] at this)
          exact ⟨ret3 (vint (congrArg Nat.cast e1)) (vint (congrArg Nat.cast e2)) rfl, rfl⟩
      · have hge' : s < b := by omega
        have HN : Hid (DivI hi lo b (i + 1) q1 s) := Lib.hid (by have := hS.2 (by omega); rwa [show t = s by omega] at this)
        clear hS hbd hq64 hrb hbb hlb hl64 hl1 ht hs hq1 hq2 hr1 hA hx hxx HI HL hge
        by_cases hend : i + 1 < 64
        · go_wp2
          go_step3
          exact ⟨rfl, ⟨rfl, l1, q1, s, i + 1, _, _, _, _, _, _, _, _, _, _, _, _, _, _, _, _, _, _, _, _, _, _, _, _, _, _, _, _, _, _, _, _, rfl, hend, HN, HL1⟩, by simp [intOf]; omega⟩
        · go_wp2
          simp only [Exit.jump]
          go_ret3
          obtain ⟨e1, e2⟩ := DivI.done (by have := HN.out; rwa [show i + 1 = 64 by omega] at this)
          exact ⟨ret3 (vint (congrArg Nat.cast e1)) (vint (congrArg Nat.cast e2)) rfl, rfl⟩
end Go.Proofs.Ytojoocfnbkgdnaa
