/- The contract of word.Sqrt: a root, and what is left. -/
import Derived.Test.YtojoocfnbkgdnaaDoorW
import Derived.LoopTactic
namespace Go.Proofs.YtojoocfnbkgdnaaDoor
open Go.RowKit
set_option maxHeartbeats 4000000
set_option maxRecDepth 100000
set_option linter.unusedVariables false
set_option linter.unusedSimpArgs false
def RootEnd (x : Nat) (w : World) (e : Ending) (w' : World) : Prop := ∃ r s : Nat, Root x r s ∧ r < 4294967296 ∧ e = .returned (.tuple #[.int .u64 r, .int .u64 s]) ∧ w' = w
theorem sqrt_c (x : Nat) (w : World) (hx : x < 18446744073709551616) : Calls Tryd.prog 4 #[.int .u64 x] w (RootEnd x w) := by
  have hst := Lib.hid (SqI.start x hx)
  clear hx
  go_enter Tryd.func4, Tryd.ntmps4
  go_wp2
  go_loop [2, 3, 4] (fun a b i => ∃ (k root rest : Nat), k ≤ 32 ∧ i = .int .i64 (62 - 2 * (k : Int)) ∧ a = .int .u64 root ∧ b = .int .u64 rest ∧ Hid (SqI x k root rest)) (fun _ _ i => (intOf i + 2).toNat)
  case atStart => exact ⟨0, 0, 0, by omega, rfl, rfl, rfl, hst⟩
  case round =>
    obtain ⟨k, root, rest, hk, rfl, rfl, rfl, HI⟩ := hrel
    by_cases hlt : k < 32
    · obtain ⟨m, hm⟩ : ∃ m : Nat, 62 - 2 * k = m := ⟨_, rfl⟩
      obtain ⟨z, hz⟩ : ∃ z : Int, 62 - 2 * (k : Int) = z := ⟨_, rfl⟩
      have hzm : z = (m : Int) := by omega
      rw [hz]
      subst hzm
      have hm62 : m ≤ 62 := by omega
      have hS := HI.out.step hlt
      obtain ⟨hr1, hr2⟩ := HI.out.bounds (by omega)
      rw [hm] at hS
      obtain ⟨d, hd⟩ : ∃ d, x / 2 ^ m % 4 = d := ⟨_, rfl⟩
      have hd4 : d < 4 := by omega
      have f1 := and_three x m
      rw [hd] at f1 hS
      have f2 := or_two rest d hr2 hd4
      have f3 := or_four1 root hr1
      have f4 := or_two1 root hr1
      obtain ⟨s, hs⟩ : ∃ s, 4 * rest + d = s := ⟨_, rfl⟩
      obtain ⟨t, ht⟩ : ∃ t, 4 * root + 1 = t := ⟨_, rfl⟩
      obtain ⟨r', hr'⟩ : ∃ r', 2 * root + 1 = r' := ⟨_, rfl⟩
      rw [hs] at f2 hS
      rw [ht] at f3 hS
      rw [hr'] at f4 hS
      have HK : Hid (62 - 2 * ((k + 1 : Nat) : Int) = (m : Int) - 2) := Lib.hid (by omega)
      by_cases hge : t ≤ s
      · have HN := Lib.hid (hS.1 hge)
        obtain ⟨u, hu⟩ : ∃ u, s - t = u := ⟨_, rfl⟩
        have f5 : (s : Int) - t = (u : Int) := by omega
        rw [hu] at HN
        have HU := Lib.hid (wrap_lt u (by omega))
        clear hS hs ht hr' hd hu hz hm HI
        go_wp2
        go_round
        case rel => exact ⟨k + 1, r', u, by omega, by rw [HK.out], rfl, by first | rfl | exact vint HU.out, HN⟩
        case measure => (simp [intOf]; try omega)
      · have hlt2 : s < t := by omega
        have HN := Lib.hid (hS.2 hlt2)
        clear hS hs ht hr' hd hz hm HI hge
        go_wp2
        go_round
        case rel => exact ⟨k + 1, 2 * root, s, by omega, by rw [HK.out], by go_num, rfl, HN⟩
        case measure => (simp [intOf]; try omega)
    · obtain rfl : k = 32 := by omega
      go_wp2
      go_ret2
      obtain ⟨h1, h2⟩ := HI.out.done
      exact ⟨root, rest, h1, h2, rfl, rfl⟩
theorem sqrt_e (x : Nat) (w : World) (hx : x < 18446744073709551616) : Calls Tryd.prog 4 #[.int .u64 x] w fun e w' => e = .returned (.tuple #[.int .u64 (isqrt x : Nat), .int .u64 (x - isqrt x * isqrt x : Nat)]) ∧ w' = w :=
  (sqrt_c x w hx).mono fun e w' ⟨r, s, hR, hr, he, hw⟩ => by
    obtain ⟨e1, e2⟩ := isqrt_of hR
    exact ⟨by rw [he, ← e2, ← e1], hw⟩
end Go.Proofs.YtojoocfnbkgdnaaDoor
