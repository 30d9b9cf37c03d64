/- Contracts of wide.Len and abacusref02.Len. -/
import Derived.Test.YtlpgflmjpdhpnaaDoorRows
import Derived.Test.YtlpgflmjpdhpnaaDoorH
import Derived.Test.YtlpgflmjpdhpnaaDoorR
namespace Go.Proofs.YtlpgflmjpdhpnaaDoor
open Go.RowKit
set_option maxHeartbeats 4000000
set_option maxRecDepth 100000
set_option linter.unusedVariables false
set_option linter.unusedSimpArgs false
theorem wlen_c (A : Nat) (w : World) (hA : A < W384) : Calls Tryd.prog 21 #[.agg (wv A)] w fun e w' => e = .returned (.int .i64 (lenW A : Nat)) ∧ Below w.heap.size w w' := by
  clear hA
  go_enter Tryd.func21, Tryd.ntmps21
  go_wp2
  go_loopw [3] (fun i wr => ((∃ j : Nat, j < 6 ∧ i = .int .i64 j ∧ Hid (lenW A = lenN A (j + 1))) ∨ (i = .int .i64 (-1) ∧ Hid (lenW A = 0))) ∧ Blks [(wv A, 24)] w.heap.size w wr) (fun i _ => (intOf i + 1).toNat)
  case atStart => exact ⟨.inl ⟨5, by omega, rfl, Lib.hid rfl⟩, (Blks.nil w).alloc rfl _ _⟩
  case round =>
    obtain ⟨hj, HT⟩ := hrel
    replace HT := Lib.hid HT
    rcases hj with ⟨j, hj, rfl, HL⟩ | ⟨rfl, HL⟩
    · have c1 : wr.cell? ⟨w.heap.size, j, none⟩ = some (.int .u64 (limb A j : Nat)) := ((HT.out.all 0 _ rfl).cell j).trans (wv_get _ _ hj)
      by_cases h0 : limb A j = 0
      · have HN : Hid (lenW A = lenN A j) := Lib.hid (by rw [HL.out, lenN, if_pos h0])
        rw [h0] at c1
        clear HL h0
        cases j with
        | zero =>
          go_wp2
          go_roundw
          case rel => exact ⟨.inr ⟨by go_num, HN⟩, HT.out⟩
          case measure => (simp [intOf]; try omega)
        | succ j =>
          go_wp2
          go_roundw
          case rel => exact ⟨.inl ⟨j, by omega, by go_num, HN⟩, HT.out⟩
          case measure => (simp [intOf]; try omega)
      · have HX : Hid (lenW A = 64 * j + Lib.bitLen (limb A j)) := Lib.hid (by rw [HL.out, lenN, if_neg h0])
        have HR := Lib.hid (limb_lt A j)
        have HB := Lib.hid (bl_spec 64 (limb A j) (Nat.le_refl _) (limb_lt A j)).2
        clear HL
        obtain ⟨x, hx⟩ : ∃ x, limb A j = x := ⟨_, rfl⟩
        rw [hx] at c1 h0 HX HR HB
        have h1 : ((x : Nat) : Int) ≠ 0 := by omega
        clear h0 hx
        obtain ⟨l, hl⟩ : ∃ l, Lib.bitLen x = l := ⟨_, rfl⟩
        have HC : Hid (∀ W, Calls Tryd.prog 45 #[.int .u64 (x : Nat)] W fun e w' => e = .returned (.int .i64 (l : Nat)) ∧ w' = W) := Lib.hid (fun W => by rw [← hl]; exact len_c _ _ HR.out)
        rw [hl] at HX HB
        have hb := HB.out
        clear hl HB
        go_wp2_with (go_at_call 45; (with_reducible refine (HC.out _).mono ?_); rintro e w' ⟨rfl, rfl⟩)
        go_ret
        exact ⟨ret1 (by rw [HX.out]; go_num), HT.out.le⟩
    · go_wp2
      go_ret
      exact ⟨ret1 (by rw [HL.out]; rfl), HT.out.le⟩
theorem r2len_c (A : Nat) (w : World) (hA : A < W384) : Calls Tryd.prog 30 #[.agg (wv A)] w fun e w' => e = .returned (.int .i64 (lenW A : Nat)) ∧ Below w.heap.size w w' := by
  clear hA
  go_enter Tryd.func30, Tryd.ntmps30
  go_wp2
  go_loopw [3] (fun i wr => ((∃ j : Nat, j < 6 ∧ i = .int .i64 j ∧ Hid (lenW A = lenN A (j + 1))) ∨ (i = .int .i64 (-1) ∧ Hid (lenW A = 0))) ∧ Blks [(wv A, 24)] w.heap.size w wr) (fun i _ => (intOf i + 1).toNat)
  case atStart => exact ⟨.inl ⟨5, by omega, rfl, Lib.hid rfl⟩, (Blks.nil w).alloc rfl _ _⟩
  case round =>
    obtain ⟨hj, HT⟩ := hrel
    replace HT := Lib.hid HT
    rcases hj with ⟨j, hj, rfl, HL⟩ | ⟨rfl, HL⟩
    · have c1 : wr.cell? ⟨w.heap.size, j, none⟩ = some (.int .u64 (limb A j : Nat)) := ((HT.out.all 0 _ rfl).cell j).trans (wv_get _ _ hj)
      by_cases h0 : limb A j = 0
      · have HN : Hid (lenW A = lenN A j) := Lib.hid (by rw [HL.out, lenN, if_pos h0])
        rw [h0] at c1
        clear HL h0
        cases j with
        | zero =>
          go_wp2
          go_roundw
          case rel => exact ⟨.inr ⟨by go_num, HN⟩, HT.out⟩
          case measure => (simp [intOf]; try omega)
        | succ j =>
          go_wp2
          go_roundw
          case rel => exact ⟨.inl ⟨j, by omega, by go_num, HN⟩, HT.out⟩
          case measure => (simp [intOf]; try omega)
      · have HX : Hid (lenW A = 64 * j + Lib.bitLen (limb A j)) := Lib.hid (by rw [HL.out, lenN, if_neg h0])
        have HR := Lib.hid (limb_lt A j)
        have HB := Lib.hid (bl_spec 64 (limb A j) (Nat.le_refl _) (limb_lt A j)).2
        clear HL
        obtain ⟨x, hx⟩ : ∃ x, limb A j = x := ⟨_, rfl⟩
        rw [hx] at c1 h0 HX HR HB
        have h1 : ((x : Nat) : Int) ≠ 0 := by omega
        clear h0 hx
        obtain ⟨l, hl⟩ : ∃ l, Lib.bitLen x = l := ⟨_, rfl⟩
        have HC : Hid (∀ W, Calls Tryd.prog 51 #[.int .u64 (x : Nat)] W fun e w' => e = .returned (.int .i64 (l : Nat)) ∧ w' = W) := Lib.hid (fun W => by rw [← hl]; exact rlen_c _ _ HR.out)
        rw [hl] at HX HB
        have hb := HB.out
        clear hl HB
        go_wp2_with (go_at_call 51; (with_reducible refine (HC.out _).mono ?_); rintro e w' ⟨rfl, rfl⟩)
        go_ret
        exact ⟨ret1 (by rw [HX.out]; go_num), HT.out.le⟩
    · go_wp2
      go_ret
      exact ⟨ret1 (by rw [HL.out]; rfl), HT.out.le⟩
end Go.Proofs.YtlpgflmjpdhpnaaDoor
