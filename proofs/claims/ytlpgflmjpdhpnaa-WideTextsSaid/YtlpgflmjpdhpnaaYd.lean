/- Contracts of abacusref02.digit and abacusref02.Text. -/
import Derived.Test.YtlpgflmjpdhpnaaRows
import Derived.Test.YtlpgflmjpdhpnaaE
import Derived.Test.YtlpgflmjpdhpnaaT
import Derived.Laws.Strings2
namespace Go.Proofs.Ytlpgflmjpdhpnaa
open Go.RowKit
set_option maxHeartbeats 4000000
set_option maxRecDepth 100000
set_option linter.unusedVariables false
set_option linter.unusedSimpArgs false
theorem digit_cut : ∀ d : Fin 16, (⟨#[48, 49, 50, 51, 52, 53, 54, 55, 56, 57, 97, 98, 99, 100, 101, 102]⟩ : ByteArray).extract d.val (d.val + 1) = ⟨#[UInt8.ofNat (digb d.val)]⟩ := by decide
theorem rdigit2_c (d : Nat) (hd : d < 16) (w : World) : Calls Try.prog 55 #[.int .u64 (d : Nat)] w fun e w' => e = .returned (.string ⟨#[UInt8.ofNat (digb d)]⟩) ∧ w' = w := by
  have f1 : ∀ w, (Instr.slice 9 (.string ⟨#[48, 49, 50, 51, 52, 53, 54, 55, 56, 57, 97, 98, 99, 100, 101, 102]⟩) (some (.int .u64 (d : Nat))) (some (.int .u64 ((d : Int) + 1))) none).run Try.prog w = .ok (.string ⟨#[UInt8.ofNat (digb d)]⟩) w := fun w => by
    have hs : (⟨#[48, 49, 50, 51, 52, 53, 54, 55, 56, 57, 97, 98, 99, 100, 101, 102]⟩ : ByteArray).size = 16 := rfl
    rw [run_slice_string (P := Try.prog) w 9 _ .u64 .u64 d (d + 1) Try.underlying9 (by omega) (by omega) (by rw [hs]; omega)]
    have h := digit_cut ⟨d, hd⟩
    simp only at h
    rw [show ((d : Int) + 1).toNat = d + 1 by omega, Int.toNat_natCast, h]
  have f2 : IntKind.u64.wrap ((d : Int) + 1) = (d : Int) + 1 := by rw [IntKind.wrap_u64]; omega
  clear hd
  go_enter Try.func55, Try.ntmps55
  go_wp2
  go_ret
  exact ⟨rfl, rfl⟩
theorem app_byte (l : List UInt8) (c : UInt8) : (⟨l.toArray⟩ : ByteArray) ++ ⟨#[c]⟩ = ⟨(l ++ [c]).toArray⟩ := by
  apply ByteArray.ext
  simp
theorem rtext2_c (A : Nat) (w : World) (hA : A < W384) : Calls Try.prog 39 #[.agg (wv A)] w fun e w' => e = .returned (.string ⟨(textL A (txtN A)).toArray⟩) ∧ Below w.heap.size w w' := by
  obtain ⟨N, hN⟩ : ∃ N, txtN A = N := ⟨_, rfl⟩
  obtain ⟨hN1, hN2⟩ := txtN_le hA
  have HH : Hid (∀ k, N ≤ k → nib A k = 0) := Lib.hid fun k hk => txt_hi hA (by rw [hN]; exact hk)
  have HT : Hid (1 < N → nib A (N - 1) ≠ 0) := Lib.hid (by rw [← hN]; exact txt_top hA)
  rw [hN] at hN1 hN2 ⊢
  clear hA hN
  go_enter Try.func39, Try.ntmps39
  go_wp2
  go_loopw [3, 4] (fun s i wr => ∃ (p : Nat), p ≤ 96 ∧ i = .int .i64 ((p : Int) - 1) ∧ s = .string ⟨(textP A N p).toArray⟩ ∧ Blks [(wv A, 24)] w.heap.size w wr) (fun _ i _ => (intOf i + 1).toNat)
  case atStart =>
    refine ⟨96, by omega, rfl, ?_, (Blks.nil w).alloc rfl _ _⟩
    rw [textP_none hN2]
  case round =>
    obtain ⟨p1, hp, rfl, rfl, HB⟩ := hrel
    replace HB := Lib.hid HB
    by_cases h0 : p1 = 0
    · subst h0
      rw [textP_zero]
      go_wp2
      go_ret
      exact ⟨rfl, HB.out.le⟩
    · obtain ⟨p, rfl⟩ : ∃ p, p1 = p + 1 := ⟨p1 - 1, by omega⟩
      have K0 : ((p + 1 : Nat) : Int) - 1 = (p : Int) := by omega
      rw [K0]
      clear K0 h0
      have c1 : wr.cell? ⟨w.heap.size, p / 16, none⟩ = some (.int .u64 (limb A (p / 16) : Nat)) := ((HB.out.all 0 _ rfl).cell _).trans (wv_get _ _ (by omega))
      have f1 : bits .and .u64 (((limb A (p / 16) : Nat) : Int) / 2 ^ (4 * (p % 16))) 15 = ((nib A p : Nat) : Int) := and_fifteen _ _
      have hnb := nib_lt A p
      by_cases h1 : p + 1 < N
      · have HN : Hid (textP A N p = textP A N (p + 1) ++ [UInt8.ofNat (digb (nib A p))]) := Lib.hid (textP_next (by omega))
        obtain ⟨s, hs⟩ : ∃ s, textP A N (p + 1) = s := ⟨_, rfl⟩
        have hs0 : s ≠ [] := by rw [← hs]; exact textP_some h1
        have hsl : s.length ≤ 96 := by rw [← hs]; simp [textP]; omega
        have hs2 : s.length < 9223372036854775807 := by omega
        have hs3 : s.length + 1 ≤ 9223372036854775807 := by omega
        rw [hs] at HN ⊢
        obtain ⟨d, hd⟩ : ∃ d, nib A p = d := ⟨_, rfl⟩
        rw [hd] at HN f1 hnb
        have C1 : Hid (∀ W, Calls Try.prog 55 #[.int .u64 (d : Nat)] W fun e w' => e = .returned (.string ⟨#[UInt8.ofNat (digb d)]⟩) ∧ w' = W) := Lib.hid fun W => rdigit2_c d hnb W
        clear hd hs h1
        go_wp2_with (go_at_call 55; (with_reducible refine (C1.out _).mono ?_); rintro e w' ⟨rfl, rfl⟩)
        go_roundw
        case rel => exact ⟨p, by omega, by go_num, by rw [HN.out]; exact congrArg Value.string (app_byte _ _), HB.out⟩
        case measure => (simp [intOf]; try omega)
      · rw [textP_none (by omega : N ≤ p + 1)]
        by_cases h2 : p + 1 = N
        · have HN : Hid (textP A N p = [] ++ [UInt8.ofNat (digb (nib A p))]) := Lib.hid (by rw [textP_next (by omega), textP_none (by omega : N ≤ p + 1)])
          have hT := HT.out
          have h3 : p ≠ 0 → nib A p ≠ 0 := fun h => by
            have := hT (by omega)
            rwa [show N - 1 = p by omega] at this
          clear hT h1 h2
          obtain ⟨d, hd⟩ : ∃ d, nib A p = d := ⟨_, rfl⟩
          rw [hd] at HN f1 hnb h3
          clear hd
          by_cases hd0 : d = 0
          · have hp0 : p = 0 := by
              by_cases e : p = 0
              · exact e
              · exact absurd hd0 (h3 e)
            subst hp0
            subst hd0
            have f0 : bits .and .u64 ((limb A 0 : Nat) : Int) 15 = 0 := by simpa using f1
            have c0 : wr.cell? ⟨w.heap.size, 0, none⟩ = some (.int .u64 (limb A 0 : Nat)) := by simpa using c1
            clear f1 c1
            have C1 : Hid (∀ W, Calls Try.prog 55 #[.int .u64 0] W fun e w' => e = .returned (.string ⟨#[UInt8.ofNat (digb 0)]⟩) ∧ w' = W) := Lib.hid fun W => rdigit2_c 0 (by omega) W
            clear h3
            go_wp2_with (go_at_call 55; (with_reducible refine (C1.out _).mono ?_); rintro e w' ⟨rfl, rfl⟩)
            go_roundw
            case rel => exact ⟨0, by omega, by go_num, by rw [HN.out]; exact congrArg Value.string (app_byte _ _), HB.out⟩
            case measure => (simp [intOf]; try omega)
          · have hdi : ((d : Nat) : Int) ≠ 0 := by omega
            have C1 : Hid (∀ W, Calls Try.prog 55 #[.int .u64 (d : Nat)] W fun e w' => e = .returned (.string ⟨#[UInt8.ofNat (digb d)]⟩) ∧ w' = W) := Lib.hid fun W => rdigit2_c d hnb W
            clear h3 hd0
            go_wp2_with (go_at_call 55; (with_reducible refine (C1.out _).mono ?_); rintro e w' ⟨rfl, rfl⟩)
            go_roundw
            case rel => exact ⟨p, by omega, by go_num, by rw [HN.out]; exact congrArg Value.string (app_byte _ _), HB.out⟩
            case measure => (simp [intOf]; try omega)
        · have hz := HH.out p (by omega)
          rw [hz] at f1
          have hp0 : ((p : Nat) : Int) ≠ 0 := by omega
          have HN : Hid (textP A N p = []) := Lib.hid (textP_none (by omega))
          clear hz hnb h1 h2
          go_wp2
          go_roundw
          case rel => exact ⟨p, by omega, by go_num, by rw [HN.out], HB.out⟩
          case measure => (simp [intOf]; try omega)
end Go.Proofs.Ytlpgflmjpdhpnaa
