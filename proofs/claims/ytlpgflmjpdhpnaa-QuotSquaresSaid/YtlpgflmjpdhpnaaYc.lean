/- The contract of abacusref02.Mul. -/
import Derived.Test.YtlpgflmjpdhpnaaRows
import Derived.Test.YtlpgflmjpdhpnaaH
import Derived.Test.YtlpgflmjpdhpnaaR
import Derived.Test.YtlpgflmjpdhpnaaYb
namespace Go.Proofs.Ytlpgflmjpdhpnaa
open Go.RowKit
set_option maxHeartbeats 4000000
set_option maxRecDepth 100000
set_option linter.unusedVariables false
set_option linter.unusedSimpArgs false
theorem rmul2_c (A B : Nat) (w : World) (hA : A < W384) (hB : B < W384) : Calls Try.prog 15 #[.agg (wv A), .agg (wv B)] w fun e w' => e = .returned (.tuple #[.agg (wv (mulW A B)), .bool (decide (W384 ≤ A * B))]) ∧ Below w.heap.size w w' := by
  have HA := Lib.hid hA
  have HB := Lib.hid hB
  clear hA hB
  have hmk : ∀ w : World, (Instr.makeSlice 64 (.int .i64 13) (.int .i64 13)).run Try.prog w = .ok (.slice (some ⟨w.heap.size, 0, none⟩) 13 13) (w.alloc (.cells (cellsN 13 (limb 0)) 22)) := run_make_words Try.underlying64 (by kernel_rfl) 13 (by omega)
  go_enter Try.func15, Try.ntmps15
  go_wp2
  clear hmk
  go_loopw [6, 7] (fun l i wr => ∃ (k : Nat), k ≤ 6 ∧ i = .int .i64 k ∧ l = .slice (some ⟨w.heap.size + 1 + 1 + 1, 0, none⟩) 13 13 ∧ Blks [(wv A, 24), (wv B, 24), (wv 0, 24), (cellsN 13 (limb (A % Bk k * B)), 22)] w.heap.size w wr) (fun _ i _ => 6 - (intOf i).toNat)
  case atStart =>
    refine ⟨0, by omega, rfl, rfl, ?_⟩
    rw [wv_zero, Bk_zero, Nat.mod_one, Nat.zero_mul]
    exact (((((Blks.nil w).alloc rfl _ _).alloc (by simp) _ _).alloc (by simp) _ _).alloc (by simp) _ _)
  case round =>
    obtain ⟨i, hi, rfl, rfl, HT⟩ := hrel
    replace HT := Lib.hid HT
    by_cases hlt : i < 6
    · have hlti : (i : Int) < 6 := by omega
      go_wp2
      go_loopw [6, 8] (fun l j wr => ∃ (k : Nat), k ≤ 6 ∧ j = .int .i64 k ∧ l = .slice (some ⟨w.heap.size + 1 + 1 + 1, 0, none⟩) 13 13 ∧ Blks [(wv A, 24), (wv B, 24), (wv 0, 24), (cellsN 13 (limb (PrW A B i k)), 22)] w.heap.size w wr) (fun _ j _ => 6 - (intOf j).toNat)
      case atStart => exact ⟨0, by omega, rfl, rfl, by rw [PrW.zero]; exact HT.out⟩
      case round =>
        clear HT
        obtain ⟨k, hk, rfl, rfl, HT⟩ := hrel
        replace HT := Lib.hid HT
        by_cases hlt2 : k < 6
        · go_wp2
          refine wp_region_sets_lit (fun S w' => Blks [(wv A, 24), (wv B, 24), (wv 0, 24), (cellsN 13 (limb (PrW A B i k)), 22)] w.heap.size w w') (by kernel_rfl) (by kernel_rfl) (HT.out.drew) ?_
          obtain ⟨U, W, hW, hU⟩ := worlds (fun S w' => Blks [(wv A, 24), (wv B, 24), (wv 0, 24), (cellsN 13 (limb (PrW A B i k)), 22)] w.heap.size w w')
          have c1 : ∀ u, (W u).cell? ⟨w.heap.size, i, none⟩ = some (.int .u64 (limb A i : Nat)) := fun u => by obtain ⟨S, h⟩ := hW u; exact ((h.all 0 _ rfl).cell i).trans (wv_get _ _ hlt)
          have c2 : ∀ u, (W u).cell? ⟨w.heap.size + 1, k, none⟩ = some (.int .u64 (limb B k : Nat)) := fun u => by obtain ⟨S, h⟩ := hW u; exact ((h.all 1 _ rfl).cell k).trans (wv_get _ _ hlt2)
          replace hW := Lib.hid hW
          replace hU := Lib.hid hU
          repeat (refine sets_quiet (fun w' => ∃ u, w' = W u) hU.out rfl (fun _ _ _ h => h) rfl ?_; intro K hK; go_big_quiet_op; first | go_big_quiet_on | (refine ⟨_, fun _ => rfl, ?_⟩; go_big_quiet_on))
          refine sets_call (.tuple #[.int .u64 (mulh (limb A i) (limb B k) : Nat), .int .u64 (mull (limb A i) (limb B k) : Nat)]) rfl 42 _ _ rfl Try.f42 Try.func42 (by kernel_rfl) (by kernel_rfl) [.int .u64 (limb A i : Nat), .int .u64 (limb B k : Nat)] rfl ?_ ?_
          · intro S w' h1 h2 h3
            refine (rmul_c _ _ _ (limb_lt _ _) (limb_lt _ _)).mono ?_
            rintro e w'' ⟨rfl, rfl⟩
            exact ⟨rfl, h3⟩
          · simp only [Act.put, List.setIfInBounds_toArray, List.set_cons_succ, List.set_cons_zero]
            repeat (refine sets_quiet (fun w' => ∃ u, w' = W u) hU.out rfl (fun _ _ _ h => h) rfl ?_; intro K hK; go_big_quiet_op; first | go_big_quiet_on | (refine ⟨_, fun _ => rfl, ?_⟩; go_big_quiet_on))
            intro S w' hS hI
            clear c1 c2 hW hU HT
            have hx := limb_lt A i
            have hy := limb_lt B k
            have hle := PrW.le A B i (k + 1)
            have h12 := mul_lt12 HA.out HB.out
            have h13 : Bk 12 ≤ Bk 13 := Bk_le (by omega)
            have hsum := PrW.succ A B i k
            have h0 := Nat.zero_le (mulh (limb A i) (limb B k) * Bk (i + k + 1))
            obtain ⟨m, hm⟩ : ∃ m, i + k = m := ⟨_, rfl⟩
            rw [hm] at hsum h0
            have D1 : Hid (Calls Try.prog 43 #[.slice (some ⟨w.heap.size + 1 + 1 + 1, 0, none⟩) 13 13, .int .i64 (m : Nat), .int .u64 (mull (limb A i) (limb B k) : Nat)] w' fun e w'' => e = .returned (.slice (some ⟨w.heap.size + 1 + 1 + 1, 0, none⟩) 13 13) ∧ w'' = w'.setRow (w.heap.size + 1 + 1 + 1) (cellsN 13 (limb (PrW A B i k + mull (limb A i) (limb B k) * Bk m)))) := Lib.hid (into_c (w.heap.size + 1 + 1 + 1) (PrW A B i k) m _ w' (hI.all 3 _ rfl) (by omega) (by omega) (mull_lt _ _))
            have hB1 : Blk (w'.setRow (w.heap.size + 1 + 1 + 1) (cellsN 13 (limb (PrW A B i k + mull (limb A i) (limb B k) * Bk m)))) (w.heap.size + 1 + 1 + 1) (cellsN 13 (limb (PrW A B i k + mull (limb A i) (limb B k) * Bk m))) 22 := Blk.row (hI.all 3 _ rfl) _
            have D2 : Hid (Calls Try.prog 43 #[.slice (some ⟨w.heap.size + 1 + 1 + 1, 0, none⟩) 13 13, .int .i64 ((m : Int) + 1), .int .u64 (mulh (limb A i) (limb B k) : Nat)] (w'.setRow (w.heap.size + 1 + 1 + 1) (cellsN 13 (limb (PrW A B i k + mull (limb A i) (limb B k) * Bk m)))) fun e w'' => e = .returned (.slice (some ⟨w.heap.size + 1 + 1 + 1, 0, none⟩) 13 13) ∧ w'' = w'.setRow (w.heap.size + 1 + 1 + 1) (cellsN 13 (limb (PrW A B i (k + 1))))) := Lib.hid (by
              have := into_c (w.heap.size + 1 + 1 + 1) _ (m + 1) (mulh (limb A i) (limb B k)) _ hB1 (by omega) (by omega) (mulh_lt _ _ hx hy)
              rw [setRow_setRow, hsum] at this
              exact this)
            have HV := Lib.hid (hI.setRow 3 (cellsN 13 (limb (PrW A B i (k + 1)))) _ _ rfl)
            have K1 : (i : Int) + (k : Int) = (m : Int) := by omega
            have hm12 : m < 12 := by omega
            clear hx hy hle h12 h13 hsum h0 hB1 hI hm
            go_wp2_with (first
              | (go_at_call 43; (with_reducible refine D1.out.mono ?_); rintro e w2 ⟨rfl, hw⟩; rw [hw]; clear hw w2)
              | (go_at_call 43; (with_reducible refine D2.out.mono ?_); rintro e w2 ⟨rfl, hw⟩; rw [hw]; clear hw w2))
            go_roundw
            case rel => exact ⟨k + 1, by omega, by go_num, rfl, HV.out⟩
            case measure => (simp [intOf]; try omega)
        · obtain rfl : k = 6 := by omega
          have e := PrW.six A i 6 rfl HB.out
          rw [e] at HT
          go_wp2
          go_roundw
          case rel => exact ⟨i + 1, by omega, by go_num, rfl, HT.out⟩
          case measure => (simp [intOf]; try omega)
    · obtain rfl : i = 6 := by omega
      have e : A % Bk 6 = A := Nat.mod_eq_of_lt HA.out
      rw [e] at HT
      have h12 := mul_lt12 HA.out HB.out
      have HP : Hid (A * B % Bk 13 = A * B) := Lib.hid (Nat.mod_eq_of_lt (Nat.lt_of_lt_of_le h12 (Bk_le (by omega))))
      obtain ⟨T, hT⟩ : ∃ T, A * B = T := ⟨_, rfl⟩
      have HM : Hid (T % Bk 6 = mulW A B) := Lib.hid (by rw [← hT]; rfl)
      have HTT := Lib.hid hT
      rw [hT] at HT HP
      clear h12 hT e hlt
      have hn4 : w.heap.size + 4 ≤ wr.heap.size := (HT.out.all 3 _ rfl).lt
      obtain ⟨q, hq⟩ : ∃ q, wr.heap.size = q := ⟨_, rfl⟩
      rw [hq] at hn4
      go_wp2
      go_loopw [12, 13] (fun o j wz => ∃ (k : Nat), k ≤ 13 ∧ j = .int .i64 k ∧ o = .bool (decide (W384 ≤ T % Bk k)) ∧ Blks [(wv A, 24), (wv B, 24), (wv 0, 24), (cellsN 13 (limb T), 22)] w.heap.size w wz ∧ Blk wz q (wv (T % Bk (min k 6))) 24) (fun _ j _ => 13 - (intOf j).toNat)
      case atStart =>
        refine ⟨0, by omega, rfl, by rw [← over_start T 0 (by omega)], HT.out.alloc' (by omega) _, ?_⟩
        rw [show min 0 6 = 0 from rfl, Bk_zero, Nat.mod_one, wv_zero, ← hq]
        exact Blk.new _ _ _
      case round =>
        clear HT hq
        obtain ⟨k, hk, rfl, rfl, HT, HQ⟩ := hrel
        replace HT := Lib.hid HT
        replace HQ := Lib.hid HQ
        by_cases hlt : k < 13
        · obtain ⟨o, ho⟩ : ∃ o, decide (W384 ≤ T % Bk k) = o := ⟨_, rfl⟩
          rw [ho]
          have c1 : wr.cell? ⟨w.heap.size + 1 + 1 + 1, k, none⟩ = some (.int .u64 (limb T k : Nat)) := ((HT.out.all 3 _ rfl).cell k).trans (cellsN_get _ _ _ hlt)
          by_cases h6 : k < 6
          · have HO : Hid (o = decide (W384 ≤ T % Bk (k + 1))) := Lib.hid (by rw [← ho]; exact (over_start T k (by omega)).symm.trans (over_start T (k + 1) (by omega)))
            have ho2 : o = false := by rw [← ho]; exact (over_start T k (by omega)).symm
            subst ho2
            have c2 : wr.frozen? ⟨q, k, none⟩ = false := HQ.out.frozen k
            have c3 : wr.cell? ⟨q, k, none⟩ = some (.int .u64 (limb (T % Bk (min k 6)) k : Nat)) := (HQ.out.cell k).trans (wv_get _ _ h6)
            have HV := Lib.hid (HT.out.other q k (.int .u64 (limb T k : Nat)) hn4)
            have HV2 : Hid (Blk (wr.setCell ⟨q, k, none⟩ (.int .u64 (limb T k : Nat))) q (wv (T % Bk (min (k + 1) 6))) 24) := Lib.hid (by
              have := HQ.out.set k (.int .u64 (limb T k : Nat))
              rw [Nat.min_eq_left (by omega), wv_top (Nat.mod_lt _ (pow_pos64 k)) (limb_lt T k), ← mod_limb] at this
              rw [Nat.min_eq_left (by omega)]
              exact this)
            clear ho HT HQ
            go_wp2
            go_roundw
            case rel => exact ⟨k + 1, by omega, by go_num, by rw [← HO.out], HV.out, HV2.out⟩
            case measure => (simp [intOf]; try omega)
          · have HO : Hid (decide (W384 ≤ T % Bk (k + 1)) = (o || decide (limb T k ≠ 0))) := Lib.hid (by rw [← ho]; exact over_step T k (by omega))
            rw [show min k 6 = min (k + 1) 6 by omega] at HQ
            clear ho
            obtain ⟨y, hy⟩ : ∃ y, limb T k = y := ⟨_, rfl⟩
            rw [hy] at HO c1
            clear hy
            cases o with
            | true =>
              go_wp2
              go_roundw
              case rel => exact ⟨k + 1, by omega, by go_num, by rw [HO.out]; rfl, HT.out, HQ.out⟩
              case measure => (simp [intOf]; try omega)
            | false =>
              by_cases h0 : y = 0
              · subst h0
                go_wp2
                go_roundw
                case rel => exact ⟨k + 1, by omega, by go_num, by rw [HO.out]; simp, HT.out, HQ.out⟩
                case measure => (simp [intOf]; try omega)
              · have h1 : ((y : Nat) : Int) ≠ 0 := by omega
                rw [decide_eq_true h0, Bool.or_true] at HO
                clear h0
                go_wp2
                go_roundw
                case rel => exact ⟨k + 1, by omega, by go_num, by rw [HO.out]; first | rfl | (simp; omega), HT.out, HQ.out⟩
                case measure => (simp [intOf]; try omega)
        · obtain rfl : k = 13 := by omega
          clear hlt
          rw [HP.out]
          rw [show min 13 6 = 6 from rfl, HM.out] at HQ
          have hne : w.heap.size + 2 ≠ q := by omega
          go_wp2_with (first
            | (refine wpList_load_blk rfl 24 _ rfl (q) rfl 24 (wv (mulW A B)) _ (HQ.out) Try.underlying24 rfl (by kernel_rfl) ?_)
            | (refine wpList_store_blk rfl 24 _ _ rfl (w.heap.size + 2) (wv (mulW A B)) rfl rfl 24 (wv 0) (HT.out.all 2 _ rfl) (by kernel_rfl) rfl (wv_one _) ?_))
          refine bodyPost_ret (results_cell_tmp rfl _ _ (w.heap.size + 2) 24 (wv (mulW A B)) _ rfl ((HT.out.setRow 2 (wv (mulW A B)) _ _ rfl).all 2 _ rfl) Try.underlying24 rfl (by kernel_rfl)) rfl ?_
          exact ⟨ret2 rfl (vbool (by rw [HTT.out])), (HT.out.setRow 2 (wv (mulW A B)) _ _ rfl).le⟩
end Go.Proofs.Ytlpgflmjpdhpnaa
