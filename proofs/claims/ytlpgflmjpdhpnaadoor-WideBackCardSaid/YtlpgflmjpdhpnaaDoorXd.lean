/- The contract of wide.Mul. -/
import Derived.Test.YtlpgflmjpdhpnaaDoorRows
import Derived.Test.YtlpgflmjpdhpnaaDoorH
import Derived.Test.YtlpgflmjpdhpnaaDoorW
namespace Go.Proofs.YtlpgflmjpdhpnaaDoor
open Go.RowKit
set_option maxHeartbeats 4000000
set_option maxRecDepth 100000
set_option linter.unusedVariables false
set_option linter.unusedSimpArgs false
theorem wmul_c (A B : Nat) (w : World) (hA : A < W384) (hB : B < W384) : Calls Tryd.prog 50 #[.agg (wv A), .agg (wv B)] w fun e w' => e = .returned (.tuple #[.agg (wv (mulW A B)), .bool (decide (W384 ≤ A * B))]) ∧ Below w.heap.size w w' := by
  have HA := Lib.hid hA
  have HB := Lib.hid hB
  clear hA hB
  go_enter Tryd.func50, Tryd.ntmps50
  have HS : Hid (Blks [(wv A, 24), (wv B, 24), (wv 0, 24), (cellsN 12 (limb 0), 58)] w.heap.size w ((((w.alloc (.cells (wv A) 24)).alloc (.cells (wv B) 24)).alloc (.cells (wv 0) 24)).alloc (.cells (cellsN 12 (limb 0)) 58))) := Lib.hid ((((((Blks.nil w).alloc rfl _ _).alloc (by simp) _ _).alloc (by simp) _ _).alloc (by simp) _ _))
  rw [wv_zero, cellsN_zero12] at HS
  go_wp2_with (first
    | (refine wpList_load_blk rfl 24 _ rfl (w.heap.size) rfl 24 (wv A) _ (HS.out.all 0 _ rfl) Tryd.underlying24 rfl (by kernel_rfl) ?_))
  go_loopw [19] (fun i wr => ∃ (k T : Nat), k ≤ 6 ∧ i = .int .i64 k ∧ Blks [(wv A, 24), (wv B, 24), (wv 0, 24), (cellsN 12 (limb T), 58)] w.heap.size w wr ∧ Hid (T = A % Bk k * B)) (fun i _ => 6 - (intOf i).toNat)
  case atStart =>
    refine ⟨0, 0, by omega, rfl, ?_, Lib.hid (by rw [Bk_zero, Nat.mod_one, Nat.zero_mul])⟩
    rw [wv_zero, cellsN_zero12]
    exact HS.out
  case round =>
    clear HS
    obtain ⟨i, T, hi, rfl, HT, HI⟩ := hrel
    replace HT := Lib.hid HT
    by_cases hlt : i < 6
    · have hM := Lib.hid (MulW.start (A := A) i HB.out)
      rw [← HI.out] at hM
      clear HI
      have hx := limb_lt A i
      obtain ⟨x, hx'⟩ : ∃ x, limb A i = x := ⟨_, rfl⟩
      rw [hx'] at hx
      have HXE := Lib.hid hx'
      clear hx'
      go_wp2_with (first
        | (refine wpList_load_blk rfl 24 _ rfl (w.heap.size + 1) rfl 24 (wv B) _ (HT.out.all 1 _ rfl) Tryd.underlying24 rfl (by kernel_rfl) ?_)
        | ((refine wpList_index_cells rfl 24 _ _ rfl 6 (limb A) i _ rfl rfl hlt Tryd.underlying24 Tryd.underlying22 (by kernel_rfl) ?_); rw [HXE.out]))
      go_loopw [9, 24] (fun c j wr => ∃ (k T c' : Nat), k ≤ 6 ∧ j = .int .i64 k ∧ c = .int .u64 (c' : Nat) ∧ Blks [(wv A, 24), (wv B, 24), (wv 0, 24), (cellsN 12 (limb T), 58)] w.heap.size w wr ∧ Hid (MulW A B i k T c')) (fun _ j _ => 6 - (intOf j).toNat)
      case atStart => exact ⟨0, T, 0, by omega, rfl, rfl, HT.out, hM⟩
      case round =>
        clear hM HT
        clear T
        obtain ⟨k, T, c, hk, rfl, rfl, HT, HI⟩ := hrel
        replace HT := Lib.hid HT
        by_cases hlt2 : k < 6
        · have HN := Lib.hid (HI.out.step hlt2)
          have hc := HI.out.1
          clear HI
          have hy := limb_lt B k
          have ht := limb_lt T (i + k)
          have c1 : wr.cell? ⟨w.heap.size + 3, i + k, none⟩ = some (.int .u64 (limb T (i + k) : Nat)) := ((HT.out.all 3 _ rfl).cell (i + k)).trans (cellsN_get _ _ _ (by omega))
          have c2 : wr.frozen? ⟨w.heap.size + 3, i + k, none⟩ = false := (HT.out.all 3 _ rfl).frozen (i + k)
          have HU : ∀ x, x < 18446744073709551616 → Blks [(wv A, 24), (wv B, 24), (wv 0, 24), (cellsN 12 (limb (setw T (i + k) x)), 58)] w.heap.size w (wr.setCell ⟨w.heap.size + 3, i + k, none⟩ (.int .u64 (x : Nat))) := fun x hx => by
            have := HT.out.setCell 3 (i + k) (.int .u64 (x : Nat)) _ _ rfl
            rwa [cellsN_setw _ _ _ _ hx] at this
          rw [HXE.out] at HN
          obtain ⟨e1, e2⟩ := muladd _ _ _ _ hx hy ht hc
          rw [← e1, ← e2] at HN
          have h2 := mull_lt x (limb B k)
          have h3 := mulh_lt x (limb B k) hx hy
          obtain ⟨m, hm⟩ : ∃ m, i + k = m := ⟨_, rfl⟩
          clear e1 e2
          rw [hm] at c1 c2 HU HN ht
          have HXY := Lib.hid hy
          have HXX := Lib.hid hx
          obtain ⟨y, hy'⟩ : ∃ y, limb B k = y := ⟨_, rfl⟩
          obtain ⟨t, ht'⟩ : ∃ t, limb T m = t := ⟨_, rfl⟩
          have C1 : Hid (∀ W, Calls Tryd.prog 59 #[.int .u64 (x : Nat), .int .u64 (y : Nat)] W fun e w' => e = .returned (.tuple #[.int .u64 (mulh x y : Nat), .int .u64 (mull x y : Nat)]) ∧ w' = W) := Lib.hid (fun W => by rw [← hy']; exact mul_c _ _ W HXX.out HXY.out)
          rw [hy'] at h2 h3
          rw [ht'] at c1 ht
          rw [hy', ht'] at HN
          have C2 : Hid (∀ W, Calls Tryd.prog 58 #[.int .u64 (mull x y : Nat), .int .u64 (t : Nat), .bool false] W fun e w' => e = .returned (.tuple #[.int .u64 (addv (mull x y) t false : Nat), .bool (addc (mull x y) t false)]) ∧ w' = W) := Lib.hid (fun W => add_c _ _ _ W h2 ht)
          have C3 : Hid (∀ W b, Calls Tryd.prog 58 #[.int .u64 (mulh x y : Nat), .int .u64 0, .bool b] W fun e w' => e = .returned (.tuple #[.int .u64 (addv (mulh x y) 0 b : Nat), .bool (addc (mulh x y) 0 b)]) ∧ w' = W) := Lib.hid (fun W b => add_c _ 0 _ W h3 (by decide))
          have C4 : Hid (∀ W, Calls Tryd.prog 58 #[.int .u64 (addv (mull x y) t false : Nat), .int .u64 (c : Nat), .bool false] W fun e w' => e = .returned (.tuple #[.int .u64 (addv (addv (mull x y) t false) c false : Nat), .bool (addc (addv (mull x y) t false) c false)]) ∧ w' = W) := Lib.hid (fun W => add_c _ _ _ W (addv_lt _ _ _) hc)
          have C5 : Hid (∀ W b d, Calls Tryd.prog 58 #[.int .u64 (addv (mulh x y) 0 b : Nat), .int .u64 0, .bool d] W fun e w' => e = .returned (.tuple #[.int .u64 (addv (addv (mulh x y) 0 b) 0 d : Nat), .bool (addc (addv (mulh x y) 0 b) 0 d)]) ∧ w' = W) := Lib.hid (fun W b d => add_c _ 0 _ W (addv_lt _ _ _) (by decide))
          have HV := Lib.hid (HU _ (addv_lt (addv (mull x y) t false) c false))
          have HM := Lib.hid hy'
          clear HU h2 h3 hx hy ht hc hy' ht'
          have K1 : (i : Int) + (k : Int) = (m : Int) := by omega
          have hm12 : m < 12 := by omega
          go_wp2_with (first
            | ((refine wpList_index_cells rfl 24 _ _ rfl 6 (limb B) k _ rfl rfl hlt2 Tryd.underlying24 Tryd.underlying22 (by kernel_rfl) ?_); rw [HM.out])
            | (go_at_call 59; (with_reducible refine (C1.out _).mono ?_); rintro e w' ⟨rfl, rfl⟩)
            | (go_at_call 58; (with_reducible first | refine (C2.out _).mono ?_ | refine (C3.out _ _).mono ?_ | refine (C4.out _).mono ?_ | refine (C5.out _ _ _).mono ?_); rintro e w' ⟨rfl, rfl⟩))
          go_roundw
          case rel => exact ⟨k + 1, _, _, by omega, by go_num, rfl, HV.out, HN⟩
          case measure => (simp [intOf]; try omega)
        · obtain rfl : k = 6 := by omega
          have HR := Lib.hid (HI.out.row rfl HB.out)
          have c2 : wr.frozen? ⟨w.heap.size + 3, i + 6, none⟩ = false := (HT.out.all 3 _ rfl).frozen (i + 6)
          have c1 : wr.cell? ⟨w.heap.size + 3, i + 6, none⟩ = some (.int .u64 (limb T (i + 6) : Nat)) := ((HT.out.all 3 _ rfl).cell (i + 6)).trans (cellsN_get _ _ _ (by omega))
          have HV : Hid (Blks [(wv A, 24), (wv B, 24), (wv 0, 24), (cellsN 12 (limb (setw T (i + 6) c)), 58)] w.heap.size w (wr.setCell ⟨w.heap.size + 3, i + 6, none⟩ (.int .u64 (c : Nat)))) := Lib.hid (by
            have := HT.out.setCell 3 (i + 6) (.int .u64 (c : Nat)) _ _ rfl
            rwa [cellsN_setw _ _ _ _ HI.out.1] at this)
          clear HI HT hx
          go_wp2
          go_roundw
          case rel => exact ⟨i + 1, _, by omega, by go_num, HV.out, HR⟩
          case measure => (simp [intOf]; try omega)
    · obtain rfl : i = 6 := by omega
      have HP : Hid (T = A * B) := Lib.hid (by rw [HI.out, show A % Bk 6 = A from Nat.mod_eq_of_lt HA.out])
      clear HI hlt
      go_wp2_with (first
        | (refine wpList_load_blk rfl 58 _ rfl (w.heap.size + 3) rfl 58 (cellsN 12 (limb T)) _ (HT.out.all 3 _ rfl) Tryd.underlying58 rfl (by kernel_rfl) ?_))
      go_loopw [5, 75] (fun o j wr => ∃ (k : Nat), k ≤ 12 ∧ j = .int .i64 k ∧ o = .bool (decide (W384 ≤ T % Bk k)) ∧ Blks [(wv A, 24), (wv B, 24), (wv (T % Bk (min k 6)), 24), (cellsN 12 (limb T), 58)] w.heap.size w wr) (fun _ j _ => 12 - (intOf j).toNat)
      case atStart => exact ⟨0, by omega, rfl, by rw [← over_start T 0 (by omega)], by simpa [Bk_zero, Nat.mod_one] using HT.out⟩
      case round =>
        clear HT
        obtain ⟨k, hk, rfl, rfl, HT⟩ := hrel
        replace HT := Lib.hid HT
        by_cases hlt : k < 12
        · obtain ⟨o, ho⟩ : ∃ o, decide (W384 ≤ T % Bk k) = o := ⟨_, rfl⟩
          rw [ho]
          by_cases h6 : k < 6
          · have HO : Hid (o = decide (W384 ≤ T % Bk (k + 1))) := Lib.hid (by rw [← ho]; exact (over_start T k (by omega)).symm.trans (over_start T (k + 1) (by omega)))
            have c1 : wr.frozen? ⟨w.heap.size + 1 + 1, k, none⟩ = false := (HT.out.all 2 _ rfl).frozen k
            have c2 : wr.cell? ⟨w.heap.size + 1 + 1, k, none⟩ = some (.int .u64 (limb (T % Bk (min k 6)) k : Nat)) := ((HT.out.all 2 _ rfl).cell k).trans (wv_get _ _ h6)
            have HV : Hid (Blks [(wv A, 24), (wv B, 24), (wv (T % Bk (min (k + 1) 6)), 24), (cellsN 12 (limb T), 58)] w.heap.size w (wr.setCell ⟨w.heap.size + 1 + 1, k, none⟩ (.int .u64 (limb T k : Nat)))) := Lib.hid (by
              have := HT.out.setCell 2 k (.int .u64 (limb T k : Nat)) _ _ rfl
              rw [Nat.min_eq_left (by omega), wv_top (Nat.mod_lt _ (pow_pos64 k)) (limb_lt T k), ← mod_limb] at this
              rw [Nat.min_eq_left (by omega)]
              exact this)
            clear ho HT
            go_wp2_with (first
              | (refine wpList_index_cells rfl 58 _ _ rfl 12 (limb T) k _ rfl rfl hlt Tryd.underlying58 Tryd.underlying22 (by kernel_rfl) ?_))
            go_roundw
            case rel => exact ⟨k + 1, by omega, by go_num, by rw [HO.out], HV.out⟩
            case measure => (simp [intOf]; try omega)
          · have HO : Hid (decide (W384 ≤ T % Bk (k + 1)) = (o || decide (limb T k ≠ 0))) := Lib.hid (by rw [← ho]; exact over_step T k (by omega))
            rw [show min k 6 = min (k + 1) 6 by omega] at HT
            clear ho
            obtain ⟨y, hy⟩ : ∃ y, limb T k = y := ⟨_, rfl⟩
            rw [hy] at HO
            replace hy := Lib.hid hy
            by_cases h0 : y = 0
            · subst h0
              go_wp2_with (first
                | ((refine wpList_index_cells rfl 58 _ _ rfl 12 (limb T) k _ rfl rfl hlt Tryd.underlying58 Tryd.underlying22 (by kernel_rfl) ?_); rw [hy.out]))
              go_roundw
              case rel => exact ⟨k + 1, by omega, by go_num, by rw [HO.out]; simp, HT.out⟩
              case measure => (simp [intOf]; try omega)
            · have h1 : ((y : Nat) : Int) ≠ 0 := by omega
              rw [decide_eq_true h0, Bool.or_true] at HO
              clear h0
              go_wp2_with (first
                | ((refine wpList_index_cells rfl 58 _ _ rfl 12 (limb T) k _ rfl rfl hlt Tryd.underlying58 Tryd.underlying22 (by kernel_rfl) ?_); rw [hy.out]))
              go_roundw
              case rel => exact ⟨k + 1, by omega, by go_num, by rw [HO.out], HT.out⟩
              case measure => (simp [intOf]; try omega)
        · obtain rfl : k = 12 := by omega
          clear hlt
          have e : T % Bk 12 = A * B := by rw [HP.out, Nat.mod_eq_of_lt (mul_lt12 HA.out HB.out)]
          have e2 : T % Bk (min 12 6) = mulW A B := by rw [HP.out]; rfl
          rw [e2] at HT
          rw [e]
          clear e e2
          go_wp2_with (first
            | (refine wpList_load_blk rfl 24 _ rfl (w.heap.size + 2) rfl 24 (wv (mulW A B)) _ (HT.out.all 2 _ rfl) Tryd.underlying24 rfl (by kernel_rfl) ?_)
            | (refine wpList_store_blk rfl 24 _ _ rfl (w.heap.size + 2) (wv (mulW A B)) rfl rfl 24 (wv (mulW A B)) (HT.out.all 2 _ rfl) (by kernel_rfl) rfl (wv_one _) ?_))
          refine bodyPost_ret (results_cell_tmp rfl _ _ (w.heap.size + 2) 24 (wv (mulW A B)) _ rfl ((HT.out.setRow 2 (wv (mulW A B)) _ _ rfl).all 2 _ rfl) Tryd.underlying24 rfl (by kernel_rfl)) rfl ?_
          exact ⟨rfl, (HT.out.setRow 2 (wv (mulW A B)) _ _ rfl).le⟩
end Go.Proofs.YtlpgflmjpdhpnaaDoor
