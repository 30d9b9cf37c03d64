/- Contracts of wide.Add and wide.Sub. -/
import Derived.Test.YtlpgflmjpdhpnaaDoorRows
import Derived.Test.YtlpgflmjpdhpnaaDoorH
import Derived.Test.YtlpgflmjpdhpnaaDoorW
namespace Go.Proofs.YtlpgflmjpdhpnaaDoor
open Go.RowKit
set_option maxHeartbeats 4000000
set_option maxRecDepth 100000
set_option linter.unusedVariables false
set_option linter.unusedSimpArgs false
theorem wadd_c (A B : Nat) (w : World) (hA : A < W384) (hB : B < W384) : Calls Tryd.prog 49 #[.agg (wv A), .agg (wv B)] w fun e w' => e = .returned (.tuple #[.agg (wv (addW A B)), .bool (decide (W384 ≤ A + B))]) ∧ Below w.heap.size w w' := by
  have HA := Lib.hid hA
  have HB := Lib.hid hB
  clear hA hB
  go_enter Tryd.func49, Tryd.ntmps49
  go_wp2
  go_loopw [5, 6, 7] (fun c x i wr => ∃ (k s : Nat) (cr : Bool), k ≤ 6 ∧ i = .int .i64 k ∧ c = .bool cr ∧ Blks [(wv A, 24), (wv B, 24), (wv s, 24)] w.heap.size w wr ∧ Hid (SumW A B k s cr)) (fun _ _ i _ => 6 - (intOf i).toNat)
  case atStart =>
    refine ⟨0, 0, false, by omega, rfl, rfl, ?_, Lib.hid (SumW.start A B)⟩
    rw [wv_zero]
    exact (((Blks.nil w).alloc rfl _ _).alloc (by simp) _ _).alloc (by simp) _ _
  case round =>
    obtain ⟨k, s, cr, hk, rfl, rfl, HT, HI⟩ := hrel
    replace HT := Lib.hid HT
    by_cases hlt : k < 6
    · go_wp2
      refine wp_region_sets_lit (fun S w' => Blks [(wv A, 24), (wv B, 24), (wv (bif S 13 then s + addv (limb A k) (limb B k) cr * Bk k else s), 24)] w.heap.size w w') (by kernel_rfl) (by kernel_rfl) (HT.out.drew) ?_
      obtain ⟨U, W, hW, hU⟩ := worlds (fun S w' => Blks [(wv A, 24), (wv B, 24), (wv (bif S 13 then s + addv (limb A k) (limb B k) cr * Bk k else s), 24)] w.heap.size w w')
      have c1 : ∀ u, (W u).cell? ⟨w.heap.size, k, none⟩ = some (.int .u64 (limb A k : Nat)) := fun u => by obtain ⟨S, h⟩ := hW u; exact ((h.all 0 _ rfl).cell k).trans (wv_get _ _ hlt)
      have c2 : ∀ u, (W u).cell? ⟨w.heap.size + 1, k, none⟩ = some (.int .u64 (limb B k : Nat)) := fun u => by obtain ⟨S, h⟩ := hW u; exact ((h.all 1 _ rfl).cell k).trans (wv_get _ _ hlt)
      replace hW := Lib.hid hW
      replace hU := Lib.hid hU
      repeat (refine sets_quiet (fun w' => ∃ u, w' = W u) hU.out rfl (fun _ _ _ h => h) rfl ?_; intro K hK; go_big_quiet_op; first | go_big_quiet_on | (refine ⟨_, fun _ => rfl, ?_⟩; go_big_quiet_on))
      refine sets_call (.tuple #[.int .u64 (addv (limb A k) (limb B k) cr : Nat), .bool (addc (limb A k) (limb B k) cr)]) rfl 58 _ _ rfl Tryd.f58 Tryd.func58 (by kernel_rfl) (by kernel_rfl) [.int .u64 (limb A k : Nat), .int .u64 (limb B k : Nat), .bool cr] rfl ?_ ?_
      · intro S w' h1 h2 h3
        refine (add_c _ _ _ _ (limb_lt _ _) (limb_lt _ _)).mono ?_
        rintro e w'' ⟨rfl, rfl⟩
        exact ⟨rfl, h3⟩
      · simp only [Act.put, List.setIfInBounds_toArray, List.set_cons_succ, List.set_cons_zero]
        repeat (refine sets_quiet (fun w' => ∃ u, w' = W u) hU.out rfl (fun _ _ _ h => h) rfl ?_; intro K hK; go_big_quiet_op; first | go_big_quiet_on | (refine ⟨_, fun _ => rfl, ?_⟩; go_big_quiet_on))
        refine sets_store rfl 22 _ _ rfl rfl ⟨w.heap.size + 1 + 1, k, none⟩ rfl _ rfl rfl (by kernel_rfl) ?_ ?_
        · intro S w' h1 h2 h3
          have h1' : S 13 = false := h1
          rw [h1'] at h3
          simp only [cond_false] at h3
          refine ⟨⟨_, ((h3.all 2 _ rfl).cell k).trans (wv_get _ _ hlt)⟩, (h3.all 2 _ rfl).frozen k, ?_⟩
          have := h3.setCell 2 k (.int .u64 (addv (limb A k) (limb B k) cr : Nat)) _ _ rfl
          rwa [wv_top HI.out.1 (addv_lt _ _ _)] at this
        · skip
          repeat (refine sets_quiet (fun w' => ∃ u, w' = W u) hU.out rfl (fun _ _ _ h => h) rfl ?_; intro K hK; go_big_quiet_op; first | go_big_quiet_on | (refine ⟨_, fun _ => rfl, ?_⟩; go_big_quiet_on))
          intro S w' hS hI
          rw [hS 13 (by decide)] at hI
          clear c1 c2 hW hU HT
          replace hI := Lib.hid hI
          go_wp2
          go_roundw
          case rel => exact ⟨k + 1, _, _, by omega, by go_num, rfl, hI.out, Lib.hid (HI.out.step)⟩
          case measure => (simp [intOf]; try omega)
    · obtain rfl : k = 6 := by omega
      go_wp2_with (first
        | (refine wpList_load_blk rfl 24 _ rfl (w.heap.size + 2) rfl 24 (wv s) _ (HT.out.all 2 _ rfl) Tryd.underlying24 rfl (by kernel_rfl) ?_)
        | (refine wpList_store_blk rfl 24 _ _ rfl (w.heap.size + 2) (wv s) rfl rfl 24 (wv s) (HT.out.all 2 _ rfl) (by kernel_rfl) rfl (wv_one _) ?_))
      refine bodyPost_ret (results_cell_tmp rfl _ _ (w.heap.size + 2) 24 (wv s) _ rfl ((HT.out.setRow 2 (wv s) _ _ rfl).all 2 _ rfl) Tryd.underlying24 rfl (by kernel_rfl)) rfl ?_
      obtain ⟨e1, e2⟩ := HI.out.done HA.out HB.out
      exact ⟨ret2 (by rw [e1]) (vbool e2), (HT.out.setRow 2 (wv s) _ _ rfl).le⟩
theorem wsub_c (A B : Nat) (w : World) (hA : A < W384) (hB : B < W384) : Calls Tryd.prog 24 #[.agg (wv A), .agg (wv B)] w fun e w' => e = .returned (.tuple #[.agg (wv (subW A B)), .bool (decide (A < B))]) ∧ Below w.heap.size w w' := by
  have HA := Lib.hid hA
  have HB := Lib.hid hB
  clear hA hB
  go_enter Tryd.func24, Tryd.ntmps24
  go_wp2
  go_loopw [5, 6, 7] (fun c x i wr => ∃ (k s : Nat) (cr : Bool), k ≤ 6 ∧ i = .int .i64 k ∧ c = .bool cr ∧ Blks [(wv A, 24), (wv B, 24), (wv s, 24)] w.heap.size w wr ∧ Hid (DifW A B k s cr)) (fun _ _ i _ => 6 - (intOf i).toNat)
  case atStart =>
    refine ⟨0, 0, false, by omega, rfl, rfl, ?_, Lib.hid (DifW.start A B)⟩
    rw [wv_zero]
    exact (((Blks.nil w).alloc rfl _ _).alloc (by simp) _ _).alloc (by simp) _ _
  case round =>
    obtain ⟨k, s, cr, hk, rfl, rfl, HT, HI⟩ := hrel
    replace HT := Lib.hid HT
    by_cases hlt : k < 6
    · go_wp2
      refine wp_region_sets_lit (fun S w' => Blks [(wv A, 24), (wv B, 24), (wv (bif S 13 then s + subv (limb A k) (limb B k) cr * Bk k else s), 24)] w.heap.size w w') (by kernel_rfl) (by kernel_rfl) (HT.out.drew) ?_
      obtain ⟨U, W, hW, hU⟩ := worlds (fun S w' => Blks [(wv A, 24), (wv B, 24), (wv (bif S 13 then s + subv (limb A k) (limb B k) cr * Bk k else s), 24)] w.heap.size w w')
      have c1 : ∀ u, (W u).cell? ⟨w.heap.size, k, none⟩ = some (.int .u64 (limb A k : Nat)) := fun u => by obtain ⟨S, h⟩ := hW u; exact ((h.all 0 _ rfl).cell k).trans (wv_get _ _ hlt)
      have c2 : ∀ u, (W u).cell? ⟨w.heap.size + 1, k, none⟩ = some (.int .u64 (limb B k : Nat)) := fun u => by obtain ⟨S, h⟩ := hW u; exact ((h.all 1 _ rfl).cell k).trans (wv_get _ _ hlt)
      replace hW := Lib.hid hW
      replace hU := Lib.hid hU
      repeat (refine sets_quiet (fun w' => ∃ u, w' = W u) hU.out rfl (fun _ _ _ h => h) rfl ?_; intro K hK; go_big_quiet_op; first | go_big_quiet_on | (refine ⟨_, fun _ => rfl, ?_⟩; go_big_quiet_on))
      refine sets_call (.tuple #[.int .u64 (subv (limb A k) (limb B k) cr : Nat), .bool (subc (limb A k) (limb B k) cr)]) rfl 47 _ _ rfl Tryd.f47 Tryd.func47 (by kernel_rfl) (by kernel_rfl) [.int .u64 (limb A k : Nat), .int .u64 (limb B k : Nat), .bool cr] rfl ?_ ?_
      · intro S w' h1 h2 h3
        refine (sub_c _ _ _ _ (limb_lt _ _) (limb_lt _ _)).mono ?_
        rintro e w'' ⟨rfl, rfl⟩
        exact ⟨rfl, h3⟩
      · simp only [Act.put, List.setIfInBounds_toArray, List.set_cons_succ, List.set_cons_zero]
        repeat (refine sets_quiet (fun w' => ∃ u, w' = W u) hU.out rfl (fun _ _ _ h => h) rfl ?_; intro K hK; go_big_quiet_op; first | go_big_quiet_on | (refine ⟨_, fun _ => rfl, ?_⟩; go_big_quiet_on))
        refine sets_store rfl 22 _ _ rfl rfl ⟨w.heap.size + 1 + 1, k, none⟩ rfl _ rfl rfl (by kernel_rfl) ?_ ?_
        · intro S w' h1 h2 h3
          have h1' : S 13 = false := h1
          rw [h1'] at h3
          simp only [cond_false] at h3
          refine ⟨⟨_, ((h3.all 2 _ rfl).cell k).trans (wv_get _ _ hlt)⟩, (h3.all 2 _ rfl).frozen k, ?_⟩
          have := h3.setCell 2 k (.int .u64 (subv (limb A k) (limb B k) cr : Nat)) _ _ rfl
          rwa [wv_top HI.out.1 (subv_lt _ _ _)] at this
        · skip
          repeat (refine sets_quiet (fun w' => ∃ u, w' = W u) hU.out rfl (fun _ _ _ h => h) rfl ?_; intro K hK; go_big_quiet_op; first | go_big_quiet_on | (refine ⟨_, fun _ => rfl, ?_⟩; go_big_quiet_on))
          intro S w' hS hI
          rw [hS 13 (by decide)] at hI
          clear c1 c2 hW hU HT
          replace hI := Lib.hid hI
          go_wp2
          go_roundw
          case rel => exact ⟨k + 1, _, _, by omega, by go_num, rfl, hI.out, Lib.hid (HI.out.step)⟩
          case measure => (simp [intOf]; try omega)
    · obtain rfl : k = 6 := by omega
      go_wp2_with (first
        | (refine wpList_load_blk rfl 24 _ rfl (w.heap.size + 2) rfl 24 (wv s) _ (HT.out.all 2 _ rfl) Tryd.underlying24 rfl (by kernel_rfl) ?_)
        | (refine wpList_store_blk rfl 24 _ _ rfl (w.heap.size + 2) (wv s) rfl rfl 24 (wv s) (HT.out.all 2 _ rfl) (by kernel_rfl) rfl (wv_one _) ?_))
      refine bodyPost_ret (results_cell_tmp rfl _ _ (w.heap.size + 2) 24 (wv s) _ rfl ((HT.out.setRow 2 (wv s) _ _ rfl).all 2 _ rfl) Tryd.underlying24 rfl (by kernel_rfl)) rfl ?_
      obtain ⟨e1, e2⟩ := HI.out.done HA.out HB.out
      exact ⟨ret2 (by rw [e1]) (vbool e2), (HT.out.setRow 2 (wv s) _ _ rfl).le⟩
end Go.Proofs.YtlpgflmjpdhpnaaDoor
