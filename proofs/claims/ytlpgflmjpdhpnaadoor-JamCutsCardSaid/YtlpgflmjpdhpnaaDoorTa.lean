/- Contracts of And, Or (wide and abacusref02). -/
import Derived.Test.YtlpgflmjpdhpnaaDoorRows
import Derived.Test.YtlpgflmjpdhpnaaDoorE
import Derived.Test.YtlpgflmjpdhpnaaDoorB
namespace Go.Proofs.YtlpgflmjpdhpnaaDoor
open Go.RowKit
set_option maxHeartbeats 4000000
set_option maxRecDepth 100000
set_option linter.unusedVariables false
set_option linter.unusedSimpArgs false
set_option exponentiation.threshold 1000
theorem wand_c (A B : Nat) (w : World) : Calls Tryd.prog 37 #[.agg (wv A), .agg (wv B)] w fun e w' => e = .returned (.agg (wv (A &&& B))) ∧ Below w.heap.size w w' := by
  have hst : wv A = cellsN 6 (fun j => if j < 0 then limb (A &&& B) j else limb A j) := cellsN_congr fun i _ => by simp
  have hend : cellsN 6 (fun j => if j < 6 then limb (A &&& B) j else limb A j) = wv (A &&& B) := cellsN_congr fun i hi => by rw [if_pos hi]
  have HS := Lib.hid hst
  have HE := Lib.hid hend
  clear hst hend
  go_enter Tryd.func37, Tryd.ntmps37
  go_wp2
  go_loopw [6] (fun i wr => ∃ (k : Nat), k ≤ 6 ∧ i = .int .i64 k ∧ Blks [(cellsN 6 (fun j => if j < k then limb (A &&& B) j else limb A j), 24), (wv B, 24), (wv 0, 24)] w.heap.size w wr) (fun i _ => 6 - (intOf i).toNat)
  case atStart =>
    refine ⟨0, by omega, rfl, ?_⟩
    rw [← HS.out, wv_zero]
    exact (((Blks.nil w).alloc rfl _ _).alloc (by simp) _ _).alloc (by simp) _ _
  case round =>
    clear HS
    obtain ⟨k, hk, rfl, HT⟩ := hrel
    replace HT := Lib.hid HT
    by_cases hlt : k < 6
    · obtain ⟨x, hx⟩ : ∃ x, limb A k = x := ⟨_, rfl⟩
      obtain ⟨y, hy⟩ : ∃ y, limb (A &&& B) k = y := ⟨_, rfl⟩
      have f1 : bits .and .u64 (x : Int) ((limb B k : Nat) : Int) = (y : Int) := by
        rw [← hx, ← hy, and_nat _ _ (limb_lt _ _) (limb_lt _ _), limb_and]
      have HY : Hid (y = limb (A &&& B) k) := Lib.hid hy.symm
      have HV : Hid (Blks [(cellsN 6 (upd (fun j => if j < k then limb (A &&& B) j else limb A j) k x), 24), (wv B, 24), (wv 0, 24)] w.heap.size w wr) := Lib.hid (by
        have h := HT.out
        rw [show (fun j => if j < k then limb (A &&& B) j else limb A j) = upd (fun j => if j < k then limb (A &&& B) j else limb A j) k x from by
          funext i
          unfold upd
          by_cases h : i = k
          · rw [if_pos h, h, if_neg (Nat.lt_irrefl k), hx]
          · rw [if_neg h]] at h
        exact h)
      clear hx hy HT
      go_wp2
      refine wp_region_sets_lit (fun S w' => Blks [(cellsN 6 (upd (fun j => if j < k then limb (A &&& B) j else limb A j) k (bif S 8 then y else x)), 24), (wv B, 24), (wv 0, 24)] w.heap.size w w') (by kernel_rfl) (by kernel_rfl) (HV.out.drew) ?_
      obtain ⟨U, W, hW, hU⟩ := worlds (fun S w' => Blks [(cellsN 6 (upd (fun j => if j < k then limb (A &&& B) j else limb A j) k (bif S 8 then y else x)), 24), (wv B, 24), (wv 0, 24)] w.heap.size w w')
      have k2 : ∀ u, (W u).cell? ⟨w.heap.size + 1, k, none⟩ = some (.int .u64 (limb B k : Nat)) := fun u => by obtain ⟨S, h⟩ := hW u; exact ((h.all 1 _ rfl).cell k).trans (wv_get _ _ hlt)
      replace hW := Lib.hid hW
      replace hU := Lib.hid hU
      repeat (refine sets_quiet (fun w' => ∃ u, w' = W u) hU.out rfl (fun _ _ _ h => h) rfl ?_; intro K hK; go_big_quiet_op; first | go_big_quiet_on | (refine ⟨_, fun _ => rfl, ?_⟩; go_big_quiet_on))
      refine sets_load1 rfl (fun _ _ _ h => h) 22 _ rfl ⟨w.heap.size, k, none⟩ rfl (.int .u64 (x : Nat)) (fun S w' h1 hcl h3 => ?_) _ Tryd.underlying22 rfl ?_
      · have hS : S 8 = false := by
          cases hS : S 8
          · rfl
          · exact absurd (hcl.chain 8 8 2 (by kernel_rfl) hS) (by rw [h1]; simp)
        rw [hS] at h3
        refine ((h3.all 0 _ rfl).cell k).trans ((cellsN_get _ _ _ hlt).trans ?_)
        simp [upd]
      · simp only [Act.put, List.setIfInBounds_toArray, List.set_cons_succ, List.set_cons_zero]
        repeat (refine sets_quiet (fun w' => ∃ u, w' = W u) hU.out rfl (fun _ _ _ h => h) rfl ?_; intro K hK; go_big_quiet_op; first | go_big_quiet_on | (refine ⟨_, fun _ => rfl, ?_⟩; go_big_quiet_on))
        refine sets_store rfl 22 _ _ rfl rfl ⟨w.heap.size, k, none⟩ rfl _ rfl rfl (by kernel_rfl) ?_ ?_
        · intro S w' h1 h2 h3
          have h1' : S 8 = false := h1
          rw [h1'] at h3
          refine ⟨⟨_, ((h3.all 0 _ rfl).cell k).trans (cellsN_get _ _ _ hlt)⟩, (h3.all 0 _ rfl).frozen k, ?_⟩
          have := h3.setCell 0 k (.int .u64 (y : Nat)) _ _ rfl
          rw [cellsN_set, upd_upd] at this
          exact this
        · skip
          repeat (refine sets_quiet (fun w' => ∃ u, w' = W u) hU.out rfl (fun _ _ _ h => h) rfl ?_; intro K hK; go_big_quiet_op; first | go_big_quiet_on | (refine ⟨_, fun _ => rfl, ?_⟩; go_big_quiet_on))
          intro S wq hS hI
          rw [show S 8 = true from hS 8 (by decide), cond_true, HY.out, upd_prefix (limb (A &&& B)) (limb A)] at hI
          clear k2 hW hU HV
          replace hI := Lib.hid hI
          go_wp2
          go_roundw
          case rel => exact ⟨k + 1, by omega, by go_num, hI.out⟩
          case measure => (simp [intOf]; try omega)
    · obtain rfl : k = 6 := by omega
      rw [HE.out] at HT
      go_wp2_with (first
        | (refine wpList_load_blk rfl 24 _ rfl (w.heap.size) rfl 24 (wv (A &&& B)) _ (HT.out.all 0 _ rfl) Tryd.underlying24 rfl (by kernel_rfl) ?_)
        | (refine wpList_store_blk rfl 24 _ _ rfl (w.heap.size + 2) (wv (A &&& B)) rfl rfl 24 (wv 0) (HT.out.all 2 _ rfl) (by kernel_rfl) rfl (wv_one _) ?_))
      refine bodyPost_ret (results_cell rfl _ _ (w.heap.size + 2) 24 (wv (A &&& B)) _ rfl ((HT.out.setRow 2 (wv (A &&& B)) _ _ rfl).all 2 _ rfl) Tryd.underlying24 rfl (by kernel_rfl)) rfl ?_
      exact ⟨rfl, (HT.out.setRow 2 (wv (A &&& B)) _ _ rfl).le⟩
theorem wor_c (A B : Nat) (w : World) : Calls Tryd.prog 39 #[.agg (wv A), .agg (wv B)] w fun e w' => e = .returned (.agg (wv (A ||| B))) ∧ Below w.heap.size w w' := by
  have hst : wv A = cellsN 6 (fun j => if j < 0 then limb (A ||| B) j else limb A j) := cellsN_congr fun i _ => by simp
  have hend : cellsN 6 (fun j => if j < 6 then limb (A ||| B) j else limb A j) = wv (A ||| B) := cellsN_congr fun i hi => by rw [if_pos hi]
  have HS := Lib.hid hst
  have HE := Lib.hid hend
  clear hst hend
  go_enter Tryd.func39, Tryd.ntmps39
  go_wp2
  go_loopw [6] (fun i wr => ∃ (k : Nat), k ≤ 6 ∧ i = .int .i64 k ∧ Blks [(cellsN 6 (fun j => if j < k then limb (A ||| B) j else limb A j), 24), (wv B, 24), (wv 0, 24)] w.heap.size w wr) (fun i _ => 6 - (intOf i).toNat)
  case atStart =>
    refine ⟨0, by omega, rfl, ?_⟩
    rw [← HS.out, wv_zero]
    exact (((Blks.nil w).alloc rfl _ _).alloc (by simp) _ _).alloc (by simp) _ _
  case round =>
    clear HS
    obtain ⟨k, hk, rfl, HT⟩ := hrel
    replace HT := Lib.hid HT
    by_cases hlt : k < 6
    · obtain ⟨x, hx⟩ : ∃ x, limb A k = x := ⟨_, rfl⟩
      obtain ⟨y, hy⟩ : ∃ y, limb (A ||| B) k = y := ⟨_, rfl⟩
      have f1 : bits .or .u64 (x : Int) ((limb B k : Nat) : Int) = (y : Int) := by
        rw [← hx, ← hy, or_nat _ _ (limb_lt _ _) (limb_lt _ _), limb_or]
      have HY : Hid (y = limb (A ||| B) k) := Lib.hid hy.symm
      have HV : Hid (Blks [(cellsN 6 (upd (fun j => if j < k then limb (A ||| B) j else limb A j) k x), 24), (wv B, 24), (wv 0, 24)] w.heap.size w wr) := Lib.hid (by
        have h := HT.out
        rw [show (fun j => if j < k then limb (A ||| B) j else limb A j) = upd (fun j => if j < k then limb (A ||| B) j else limb A j) k x from by
          funext i
          unfold upd
          by_cases h : i = k
          · rw [if_pos h, h, if_neg (Nat.lt_irrefl k), hx]
          · rw [if_neg h]] at h
        exact h)
      clear hx hy HT
      go_wp2
      refine wp_region_sets_lit (fun S w' => Blks [(cellsN 6 (upd (fun j => if j < k then limb (A ||| B) j else limb A j) k (bif S 8 then y else x)), 24), (wv B, 24), (wv 0, 24)] w.heap.size w w') (by kernel_rfl) (by kernel_rfl) (HV.out.drew) ?_
      obtain ⟨U, W, hW, hU⟩ := worlds (fun S w' => Blks [(cellsN 6 (upd (fun j => if j < k then limb (A ||| B) j else limb A j) k (bif S 8 then y else x)), 24), (wv B, 24), (wv 0, 24)] w.heap.size w w')
      have k2 : ∀ u, (W u).cell? ⟨w.heap.size + 1, k, none⟩ = some (.int .u64 (limb B k : Nat)) := fun u => by obtain ⟨S, h⟩ := hW u; exact ((h.all 1 _ rfl).cell k).trans (wv_get _ _ hlt)
      replace hW := Lib.hid hW
      replace hU := Lib.hid hU
      repeat (refine sets_quiet (fun w' => ∃ u, w' = W u) hU.out rfl (fun _ _ _ h => h) rfl ?_; intro K hK; go_big_quiet_op; first | go_big_quiet_on | (refine ⟨_, fun _ => rfl, ?_⟩; go_big_quiet_on))
      refine sets_load1 rfl (fun _ _ _ h => h) 22 _ rfl ⟨w.heap.size, k, none⟩ rfl (.int .u64 (x : Nat)) (fun S w' h1 hcl h3 => ?_) _ Tryd.underlying22 rfl ?_
      · have hS : S 8 = false := by
          cases hS : S 8
          · rfl
          · exact absurd (hcl.chain 8 8 2 (by kernel_rfl) hS) (by rw [h1]; simp)
        rw [hS] at h3
        refine ((h3.all 0 _ rfl).cell k).trans ((cellsN_get _ _ _ hlt).trans ?_)
        simp [upd]
      · simp only [Act.put, List.setIfInBounds_toArray, List.set_cons_succ, List.set_cons_zero]
        repeat (refine sets_quiet (fun w' => ∃ u, w' = W u) hU.out rfl (fun _ _ _ h => h) rfl ?_; intro K hK; go_big_quiet_op; first | go_big_quiet_on | (refine ⟨_, fun _ => rfl, ?_⟩; go_big_quiet_on))
        refine sets_store rfl 22 _ _ rfl rfl ⟨w.heap.size, k, none⟩ rfl _ rfl rfl (by kernel_rfl) ?_ ?_
        · intro S w' h1 h2 h3
          have h1' : S 8 = false := h1
          rw [h1'] at h3
          refine ⟨⟨_, ((h3.all 0 _ rfl).cell k).trans (cellsN_get _ _ _ hlt)⟩, (h3.all 0 _ rfl).frozen k, ?_⟩
          have := h3.setCell 0 k (.int .u64 (y : Nat)) _ _ rfl
          rw [cellsN_set, upd_upd] at this
          exact this
        · skip
          repeat (refine sets_quiet (fun w' => ∃ u, w' = W u) hU.out rfl (fun _ _ _ h => h) rfl ?_; intro K hK; go_big_quiet_op; first | go_big_quiet_on | (refine ⟨_, fun _ => rfl, ?_⟩; go_big_quiet_on))
          intro S wq hS hI
          rw [show S 8 = true from hS 8 (by decide), cond_true, HY.out, upd_prefix (limb (A ||| B)) (limb A)] at hI
          clear k2 hW hU HV
          replace hI := Lib.hid hI
          go_wp2
          go_roundw
          case rel => exact ⟨k + 1, by omega, by go_num, hI.out⟩
          case measure => (simp [intOf]; try omega)
    · obtain rfl : k = 6 := by omega
      rw [HE.out] at HT
      go_wp2_with (first
        | (refine wpList_load_blk rfl 24 _ rfl (w.heap.size) rfl 24 (wv (A ||| B)) _ (HT.out.all 0 _ rfl) Tryd.underlying24 rfl (by kernel_rfl) ?_)
        | (refine wpList_store_blk rfl 24 _ _ rfl (w.heap.size + 2) (wv (A ||| B)) rfl rfl 24 (wv 0) (HT.out.all 2 _ rfl) (by kernel_rfl) rfl (wv_one _) ?_))
      refine bodyPost_ret (results_cell rfl _ _ (w.heap.size + 2) 24 (wv (A ||| B)) _ rfl ((HT.out.setRow 2 (wv (A ||| B)) _ _ rfl).all 2 _ rfl) Tryd.underlying24 rfl (by kernel_rfl)) rfl ?_
      exact ⟨rfl, (HT.out.setRow 2 (wv (A ||| B)) _ _ rfl).le⟩
theorem rand2_c (A B : Nat) (w : World) : Calls Tryd.prog 38 #[.agg (wv A), .agg (wv B)] w fun e w' => e = .returned (.agg (wv (A &&& B))) ∧ Below w.heap.size w w' := by
  have hst : wv A = cellsN 6 (fun j => if j < 0 then limb (A &&& B) j else limb A j) := cellsN_congr fun i _ => by simp
  have hend : cellsN 6 (fun j => if j < 6 then limb (A &&& B) j else limb A j) = wv (A &&& B) := cellsN_congr fun i hi => by rw [if_pos hi]
  have HS := Lib.hid hst
  have HE := Lib.hid hend
  clear hst hend
  go_enter Tryd.func38, Tryd.ntmps38
  go_wp2
  go_loopw [5] (fun i wr => ∃ (k : Nat), k ≤ 6 ∧ i = .int .i64 k ∧ Blks [(cellsN 6 (fun j => if j < k then limb (A &&& B) j else limb A j), 24), (wv B, 24), (wv 0, 24)] w.heap.size w wr) (fun i _ => 6 - (intOf i).toNat)
  case atStart =>
    refine ⟨0, by omega, rfl, ?_⟩
    rw [← HS.out, wv_zero]
    exact (((Blks.nil w).alloc rfl _ _).alloc (by simp) _ _).alloc (by simp) _ _
  case round =>
    clear HS
    obtain ⟨k, hk, rfl, HT⟩ := hrel
    replace HT := Lib.hid HT
    by_cases hlt : k < 6
    · obtain ⟨x, hx⟩ : ∃ x, limb A k = x := ⟨_, rfl⟩
      obtain ⟨y, hy⟩ : ∃ y, limb (A &&& B) k = y := ⟨_, rfl⟩
      have f1 : bits .and .u64 (x : Int) ((limb B k : Nat) : Int) = (y : Int) := by
        rw [← hx, ← hy, and_nat _ _ (limb_lt _ _) (limb_lt _ _), limb_and]
      have HY : Hid (y = limb (A &&& B) k) := Lib.hid hy.symm
      have HV : Hid (Blks [(cellsN 6 (upd (fun j => if j < k then limb (A &&& B) j else limb A j) k x), 24), (wv B, 24), (wv 0, 24)] w.heap.size w wr) := Lib.hid (by
        have h := HT.out
        rw [show (fun j => if j < k then limb (A &&& B) j else limb A j) = upd (fun j => if j < k then limb (A &&& B) j else limb A j) k x from by
          funext i
          unfold upd
          by_cases h : i = k
          · rw [if_pos h, h, if_neg (Nat.lt_irrefl k), hx]
          · rw [if_neg h]] at h
        exact h)
      clear hx hy HT
      go_wp2
      refine wp_region_sets_lit (fun S w' => Blks [(cellsN 6 (upd (fun j => if j < k then limb (A &&& B) j else limb A j) k (bif S 9 then y else x)), 24), (wv B, 24), (wv 0, 24)] w.heap.size w w') (by kernel_rfl) (by kernel_rfl) (HV.out.drew) ?_
      obtain ⟨U, W, hW, hU⟩ := worlds (fun S w' => Blks [(cellsN 6 (upd (fun j => if j < k then limb (A &&& B) j else limb A j) k (bif S 9 then y else x)), 24), (wv B, 24), (wv 0, 24)] w.heap.size w w')
      have k2 : ∀ u, (W u).cell? ⟨w.heap.size + 1, k, none⟩ = some (.int .u64 (limb B k : Nat)) := fun u => by obtain ⟨S, h⟩ := hW u; exact ((h.all 1 _ rfl).cell k).trans (wv_get _ _ hlt)
      replace hW := Lib.hid hW
      replace hU := Lib.hid hU
      repeat (refine sets_quiet (fun w' => ∃ u, w' = W u) hU.out rfl (fun _ _ _ h => h) rfl ?_; intro K hK; go_big_quiet_op; first | go_big_quiet_on | (refine ⟨_, fun _ => rfl, ?_⟩; go_big_quiet_on))
      refine sets_load1 rfl (fun _ _ _ h => h) 22 _ rfl ⟨w.heap.size, k, none⟩ rfl (.int .u64 (x : Nat)) (fun S w' h1 hcl h3 => ?_) _ Tryd.underlying22 rfl ?_
      · have hS : S 9 = false := by
          cases hS : S 9
          · rfl
          · exact absurd (hcl.chain 8 9 3 (by kernel_rfl) hS) (by rw [h1]; simp)
        rw [hS] at h3
        refine ((h3.all 0 _ rfl).cell k).trans ((cellsN_get _ _ _ hlt).trans ?_)
        simp [upd]
      · simp only [Act.put, List.setIfInBounds_toArray, List.set_cons_succ, List.set_cons_zero]
        repeat (refine sets_quiet (fun w' => ∃ u, w' = W u) hU.out rfl (fun _ _ _ h => h) rfl ?_; intro K hK; go_big_quiet_op; first | go_big_quiet_on | (refine ⟨_, fun _ => rfl, ?_⟩; go_big_quiet_on))
        refine sets_store rfl 22 _ _ rfl rfl ⟨w.heap.size, k, none⟩ rfl _ rfl rfl (by kernel_rfl) ?_ ?_
        · intro S w' h1 h2 h3
          have h1' : S 9 = false := h1
          rw [h1'] at h3
          refine ⟨⟨_, ((h3.all 0 _ rfl).cell k).trans (cellsN_get _ _ _ hlt)⟩, (h3.all 0 _ rfl).frozen k, ?_⟩
          have := h3.setCell 0 k (.int .u64 (y : Nat)) _ _ rfl
          rw [cellsN_set, upd_upd] at this
          exact this
        · skip
          repeat (refine sets_quiet (fun w' => ∃ u, w' = W u) hU.out rfl (fun _ _ _ h => h) rfl ?_; intro K hK; go_big_quiet_op; first | go_big_quiet_on | (refine ⟨_, fun _ => rfl, ?_⟩; go_big_quiet_on))
          intro S wq hS hI
          rw [show S 9 = true from hS 9 (by decide), cond_true, HY.out, upd_prefix (limb (A &&& B)) (limb A)] at hI
          clear k2 hW hU HV
          replace hI := Lib.hid hI
          go_wp2
          go_roundw
          case rel => exact ⟨k + 1, by omega, by go_num, hI.out⟩
          case measure => (simp [intOf]; try omega)
    · obtain rfl : k = 6 := by omega
      rw [HE.out] at HT
      go_wp2_with (first
        | (refine wpList_load_blk rfl 24 _ rfl (w.heap.size) rfl 24 (wv (A &&& B)) _ (HT.out.all 0 _ rfl) Tryd.underlying24 rfl (by kernel_rfl) ?_)
        | (refine wpList_store_blk rfl 24 _ _ rfl (w.heap.size + 2) (wv (A &&& B)) rfl rfl 24 (wv 0) (HT.out.all 2 _ rfl) (by kernel_rfl) rfl (wv_one _) ?_))
      refine bodyPost_ret (results_cell rfl _ _ (w.heap.size + 2) 24 (wv (A &&& B)) _ rfl ((HT.out.setRow 2 (wv (A &&& B)) _ _ rfl).all 2 _ rfl) Tryd.underlying24 rfl (by kernel_rfl)) rfl ?_
      exact ⟨rfl, (HT.out.setRow 2 (wv (A &&& B)) _ _ rfl).le⟩
theorem ror2_c (A B : Nat) (w : World) : Calls Tryd.prog 40 #[.agg (wv A), .agg (wv B)] w fun e w' => e = .returned (.agg (wv (A ||| B))) ∧ Below w.heap.size w w' := by
  have hst : wv A = cellsN 6 (fun j => if j < 0 then limb (A ||| B) j else limb A j) := cellsN_congr fun i _ => by simp
  have hend : cellsN 6 (fun j => if j < 6 then limb (A ||| B) j else limb A j) = wv (A ||| B) := cellsN_congr fun i hi => by rw [if_pos hi]
  have HS := Lib.hid hst
  have HE := Lib.hid hend
  clear hst hend
  go_enter Tryd.func40, Tryd.ntmps40
  go_wp2
  go_loopw [5] (fun i wr => ∃ (k : Nat), k ≤ 6 ∧ i = .int .i64 k ∧ Blks [(cellsN 6 (fun j => if j < k then limb (A ||| B) j else limb A j), 24), (wv B, 24), (wv 0, 24)] w.heap.size w wr) (fun i _ => 6 - (intOf i).toNat)
  case atStart =>
    refine ⟨0, by omega, rfl, ?_⟩
    rw [← HS.out, wv_zero]
    exact (((Blks.nil w).alloc rfl _ _).alloc (by simp) _ _).alloc (by simp) _ _
  case round =>
    clear HS
    obtain ⟨k, hk, rfl, HT⟩ := hrel
    replace HT := Lib.hid HT
    by_cases hlt : k < 6
    · obtain ⟨x, hx⟩ : ∃ x, limb A k = x := ⟨_, rfl⟩
      obtain ⟨y, hy⟩ : ∃ y, limb (A ||| B) k = y := ⟨_, rfl⟩
      have f1 : bits .or .u64 (x : Int) ((limb B k : Nat) : Int) = (y : Int) := by
        rw [← hx, ← hy, or_nat _ _ (limb_lt _ _) (limb_lt _ _), limb_or]
      have HY : Hid (y = limb (A ||| B) k) := Lib.hid hy.symm
      have HV : Hid (Blks [(cellsN 6 (upd (fun j => if j < k then limb (A ||| B) j else limb A j) k x), 24), (wv B, 24), (wv 0, 24)] w.heap.size w wr) := Lib.hid (by
        have h := HT.out
        rw [show (fun j => if j < k then limb (A ||| B) j else limb A j) = upd (fun j => if j < k then limb (A ||| B) j else limb A j) k x from by
          funext i
          unfold upd
          by_cases h : i = k
          · rw [if_pos h, h, if_neg (Nat.lt_irrefl k), hx]
          · rw [if_neg h]] at h
        exact h)
      clear hx hy HT
      go_wp2
      refine wp_region_sets_lit (fun S w' => Blks [(cellsN 6 (upd (fun j => if j < k then limb (A ||| B) j else limb A j) k (bif S 9 then y else x)), 24), (wv B, 24), (wv 0, 24)] w.heap.size w w') (by kernel_rfl) (by kernel_rfl) (HV.out.drew) ?_
      obtain ⟨U, W, hW, hU⟩ := worlds (fun S w' => Blks [(cellsN 6 (upd (fun j => if j < k then limb (A ||| B) j else limb A j) k (bif S 9 then y else x)), 24), (wv B, 24), (wv 0, 24)] w.heap.size w w')
      have k2 : ∀ u, (W u).cell? ⟨w.heap.size + 1, k, none⟩ = some (.int .u64 (limb B k : Nat)) := fun u => by obtain ⟨S, h⟩ := hW u; exact ((h.all 1 _ rfl).cell k).trans (wv_get _ _ hlt)
      replace hW := Lib.hid hW
      replace hU := Lib.hid hU
      repeat (refine sets_quiet (fun w' => ∃ u, w' = W u) hU.out rfl (fun _ _ _ h => h) rfl ?_; intro K hK; go_big_quiet_op; first | go_big_quiet_on | (refine ⟨_, fun _ => rfl, ?_⟩; go_big_quiet_on))
      refine sets_load1 rfl (fun _ _ _ h => h) 22 _ rfl ⟨w.heap.size, k, none⟩ rfl (.int .u64 (x : Nat)) (fun S w' h1 hcl h3 => ?_) _ Tryd.underlying22 rfl ?_
      · have hS : S 9 = false := by
          cases hS : S 9
          · rfl
          · exact absurd (hcl.chain 8 9 3 (by kernel_rfl) hS) (by rw [h1]; simp)
        rw [hS] at h3
        refine ((h3.all 0 _ rfl).cell k).trans ((cellsN_get _ _ _ hlt).trans ?_)
        simp [upd]
      · simp only [Act.put, List.setIfInBounds_toArray, List.set_cons_succ, List.set_cons_zero]
        repeat (refine sets_quiet (fun w' => ∃ u, w' = W u) hU.out rfl (fun _ _ _ h => h) rfl ?_; intro K hK; go_big_quiet_op; first | go_big_quiet_on | (refine ⟨_, fun _ => rfl, ?_⟩; go_big_quiet_on))
        refine sets_store rfl 22 _ _ rfl rfl ⟨w.heap.size, k, none⟩ rfl _ rfl rfl (by kernel_rfl) ?_ ?_
        · intro S w' h1 h2 h3
          have h1' : S 9 = false := h1
          rw [h1'] at h3
          refine ⟨⟨_, ((h3.all 0 _ rfl).cell k).trans (cellsN_get _ _ _ hlt)⟩, (h3.all 0 _ rfl).frozen k, ?_⟩
          have := h3.setCell 0 k (.int .u64 (y : Nat)) _ _ rfl
          rw [cellsN_set, upd_upd] at this
          exact this
        · skip
          repeat (refine sets_quiet (fun w' => ∃ u, w' = W u) hU.out rfl (fun _ _ _ h => h) rfl ?_; intro K hK; go_big_quiet_op; first | go_big_quiet_on | (refine ⟨_, fun _ => rfl, ?_⟩; go_big_quiet_on))
          intro S wq hS hI
          rw [show S 9 = true from hS 9 (by decide), cond_true, HY.out, upd_prefix (limb (A ||| B)) (limb A)] at hI
          clear k2 hW hU HV
          replace hI := Lib.hid hI
          go_wp2
          go_roundw
          case rel => exact ⟨k + 1, by omega, by go_num, hI.out⟩
          case measure => (simp [intOf]; try omega)
    · obtain rfl : k = 6 := by omega
      rw [HE.out] at HT
      go_wp2_with (first
        | (refine wpList_load_blk rfl 24 _ rfl (w.heap.size) rfl 24 (wv (A ||| B)) _ (HT.out.all 0 _ rfl) Tryd.underlying24 rfl (by kernel_rfl) ?_)
        | (refine wpList_store_blk rfl 24 _ _ rfl (w.heap.size + 2) (wv (A ||| B)) rfl rfl 24 (wv 0) (HT.out.all 2 _ rfl) (by kernel_rfl) rfl (wv_one _) ?_))
      refine bodyPost_ret (results_cell rfl _ _ (w.heap.size + 2) 24 (wv (A ||| B)) _ rfl ((HT.out.setRow 2 (wv (A ||| B)) _ _ rfl).all 2 _ rfl) Tryd.underlying24 rfl (by kernel_rfl)) rfl ?_
      exact ⟨rfl, (HT.out.setRow 2 (wv (A ||| B)) _ _ rfl).le⟩
end Go.Proofs.YtlpgflmjpdhpnaaDoor
