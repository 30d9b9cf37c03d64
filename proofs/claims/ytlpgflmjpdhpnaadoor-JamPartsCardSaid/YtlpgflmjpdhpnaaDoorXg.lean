/- Contracts of wide.Cmp and abacusref02.Cmp. -/
import Derived.Test.YtlpgflmjpdhpnaaDoorRows
import Derived.Test.YtlpgflmjpdhpnaaDoorH
namespace Go.Proofs.YtlpgflmjpdhpnaaDoor
open Go.RowKit
set_option maxHeartbeats 4000000
set_option maxRecDepth 100000
set_option linter.unusedVariables false
set_option linter.unusedSimpArgs false
theorem wcmp_c (A B : Nat) (w : World) (hA : A < W384) (hB : B < W384) : Calls Tryd.prog 26 #[.agg (wv A), .agg (wv B)] w fun e w' => e = .returned (.int .i64 (cmpW A B)) ∧ Below w.heap.size w w' := by
  have HS := Lib.hid (above_start hA hB)
  clear hA hB
  go_enter Tryd.func26, Tryd.ntmps26
  go_wp2
  go_loopw [5] (fun i wr => ((∃ j : Nat, j < 6 ∧ i = .int .i64 j ∧ Hid (A / Bk (j + 1) = B / Bk (j + 1))) ∨ (i = .int .i64 (-1) ∧ Hid (A / Bk 0 = B / Bk 0))) ∧ Blks [(wv A, 24), (wv B, 24)] w.heap.size w wr) (fun i _ => (intOf i + 1).toNat)
  case atStart => exact ⟨.inl ⟨5, by omega, rfl, HS⟩, ((Blks.nil w).alloc rfl _ _).alloc (by simp) _ _⟩
  case round =>
    clear HS
    obtain ⟨hj, HT⟩ := hrel
    replace HT := Lib.hid HT
    rcases hj with ⟨j, hj, rfl, HL⟩ | ⟨rfl, HL⟩
    · have hji : (0 : Int) ≤ (j : Int) := by omega
      by_cases h1 : limb A j < limb B j
      · have HC := Lib.hid (cmp_lt (above_lt HL.out h1))
        have h1i : ((limb A j : Nat) : Int) < ((limb B j : Nat) : Int) := by omega
        clear HL
        go_wp2
        refine wp_region_sets_lit (fun S w' => Blks [(wv A, 24), (wv B, 24)] w.heap.size w w') (by kernel_rfl) (by kernel_rfl) (HT.out.drew) ?_
        obtain ⟨U, W, hW, hU⟩ := worlds (fun S w' => Blks [(wv A, 24), (wv B, 24)] w.heap.size w w')
        have c1 : ∀ u, (W u).cell? ⟨w.heap.size, j, none⟩ = some (.int .u64 (limb A j : Nat)) := fun u => by obtain ⟨S, h⟩ := hW u; exact ((h.all 0 _ rfl).cell j).trans (wv_get _ _ hj)
        have c2 : ∀ u, (W u).cell? ⟨w.heap.size + 1, j, none⟩ = some (.int .u64 (limb B j : Nat)) := fun u => by obtain ⟨S, h⟩ := hW u; exact ((h.all 1 _ rfl).cell j).trans (wv_get _ _ hj)
        replace hW := Lib.hid hW
        replace hU := Lib.hid hU
        repeat (refine sets_quiet (fun w' => ∃ u, w' = W u) hU.out rfl (fun _ _ _ h => h) rfl ?_; intro K hK; go_big_quiet_op; first | go_big_quiet_on | (refine ⟨_, fun _ => rfl, ?_⟩; go_big_quiet_on))
        intro S wq hS hI
        clear c1 c2 hW hU HT
        replace HT := Lib.hid hI
        clear hI
        go_wp2
        go_ret
        exact ⟨ret1 (by rw [HC.out]; rfl), HT.out.le⟩
      · have h1i : ¬ ((limb A j : Nat) : Int) < ((limb B j : Nat) : Int) := by omega
        by_cases h2 : limb B j < limb A j
        · have HC := Lib.hid (cmp_gt (above_lt HL.out.symm h2))
          have h2i : ((limb B j : Nat) : Int) < ((limb A j : Nat) : Int) := by omega
          clear HL
          go_wp2
          refine wp_region_sets_lit (fun S w' => Blks [(wv A, 24), (wv B, 24)] w.heap.size w w') (by kernel_rfl) (by kernel_rfl) (HT.out.drew) ?_
          obtain ⟨U, W, hW, hU⟩ := worlds (fun S w' => Blks [(wv A, 24), (wv B, 24)] w.heap.size w w')
          have c1 : ∀ u, (W u).cell? ⟨w.heap.size, j, none⟩ = some (.int .u64 (limb A j : Nat)) := fun u => by obtain ⟨S, h⟩ := hW u; exact ((h.all 0 _ rfl).cell j).trans (wv_get _ _ hj)
          have c2 : ∀ u, (W u).cell? ⟨w.heap.size + 1, j, none⟩ = some (.int .u64 (limb B j : Nat)) := fun u => by obtain ⟨S, h⟩ := hW u; exact ((h.all 1 _ rfl).cell j).trans (wv_get _ _ hj)
          replace hW := Lib.hid hW
          replace hU := Lib.hid hU
          repeat (refine sets_quiet (fun w' => ∃ u, w' = W u) hU.out rfl (fun _ _ _ h => h) rfl ?_; intro K hK; go_big_quiet_op; first | go_big_quiet_on | (refine ⟨_, fun _ => rfl, ?_⟩; go_big_quiet_on))
          intro S wq hS hI
          clear c1 c2 hW hU HT
          replace HT := Lib.hid hI
          clear hI
          go_wp2
          refine wp_region_sets_lit (fun S w' => Blks [(wv A, 24), (wv B, 24)] w.heap.size w w') (by kernel_rfl) (by kernel_rfl) (HT.out.drew) ?_
          obtain ⟨U, W, hW, hU⟩ := worlds (fun S w' => Blks [(wv A, 24), (wv B, 24)] w.heap.size w w')
          have c1 : ∀ u, (W u).cell? ⟨w.heap.size, j, none⟩ = some (.int .u64 (limb A j : Nat)) := fun u => by obtain ⟨S, h⟩ := hW u; exact ((h.all 0 _ rfl).cell j).trans (wv_get _ _ hj)
          have c2 : ∀ u, (W u).cell? ⟨w.heap.size + 1, j, none⟩ = some (.int .u64 (limb B j : Nat)) := fun u => by obtain ⟨S, h⟩ := hW u; exact ((h.all 1 _ rfl).cell j).trans (wv_get _ _ hj)
          replace hW := Lib.hid hW
          replace hU := Lib.hid hU
          repeat (refine sets_quiet (fun w' => ∃ u, w' = W u) hU.out rfl (fun _ _ _ h => h) rfl ?_; intro K hK; go_big_quiet_op; first | go_big_quiet_on | (refine ⟨_, fun _ => rfl, ?_⟩; go_big_quiet_on))
          intro S wq hS hI
          clear c1 c2 hW hU HT
          replace HT := Lib.hid hI
          clear hI
          go_wp2
          go_ret
          exact ⟨ret1 (by rw [HC.out]; rfl), HT.out.le⟩
        · have HN := Lib.hid (above_eq HL.out (by omega))
          have h2i : ¬ ((limb B j : Nat) : Int) < ((limb A j : Nat) : Int) := by omega
          clear HL
          go_wp2
          refine wp_region_sets_lit (fun S w' => Blks [(wv A, 24), (wv B, 24)] w.heap.size w w') (by kernel_rfl) (by kernel_rfl) (HT.out.drew) ?_
          obtain ⟨U, W, hW, hU⟩ := worlds (fun S w' => Blks [(wv A, 24), (wv B, 24)] w.heap.size w w')
          have c1 : ∀ u, (W u).cell? ⟨w.heap.size, j, none⟩ = some (.int .u64 (limb A j : Nat)) := fun u => by obtain ⟨S, h⟩ := hW u; exact ((h.all 0 _ rfl).cell j).trans (wv_get _ _ hj)
          have c2 : ∀ u, (W u).cell? ⟨w.heap.size + 1, j, none⟩ = some (.int .u64 (limb B j : Nat)) := fun u => by obtain ⟨S, h⟩ := hW u; exact ((h.all 1 _ rfl).cell j).trans (wv_get _ _ hj)
          replace hW := Lib.hid hW
          replace hU := Lib.hid hU
          repeat (refine sets_quiet (fun w' => ∃ u, w' = W u) hU.out rfl (fun _ _ _ h => h) rfl ?_; intro K hK; go_big_quiet_op; first | go_big_quiet_on | (refine ⟨_, fun _ => rfl, ?_⟩; go_big_quiet_on))
          intro S wq hS hI
          clear c1 c2 hW hU HT
          replace HT := Lib.hid hI
          clear hI
          go_wp2
          refine wp_region_sets_lit (fun S w' => Blks [(wv A, 24), (wv B, 24)] w.heap.size w w') (by kernel_rfl) (by kernel_rfl) (HT.out.drew) ?_
          obtain ⟨U, W, hW, hU⟩ := worlds (fun S w' => Blks [(wv A, 24), (wv B, 24)] w.heap.size w w')
          have c1 : ∀ u, (W u).cell? ⟨w.heap.size, j, none⟩ = some (.int .u64 (limb A j : Nat)) := fun u => by obtain ⟨S, h⟩ := hW u; exact ((h.all 0 _ rfl).cell j).trans (wv_get _ _ hj)
          have c2 : ∀ u, (W u).cell? ⟨w.heap.size + 1, j, none⟩ = some (.int .u64 (limb B j : Nat)) := fun u => by obtain ⟨S, h⟩ := hW u; exact ((h.all 1 _ rfl).cell j).trans (wv_get _ _ hj)
          replace hW := Lib.hid hW
          replace hU := Lib.hid hU
          repeat (refine sets_quiet (fun w' => ∃ u, w' = W u) hU.out rfl (fun _ _ _ h => h) rfl ?_; intro K hK; go_big_quiet_op; first | go_big_quiet_on | (refine ⟨_, fun _ => rfl, ?_⟩; go_big_quiet_on))
          intro S wq hS hI
          clear c1 c2 hW hU HT
          replace HT := Lib.hid hI
          clear hI
          go_wp2
          cases j with
          | zero =>
            go_roundw
            case rel => exact ⟨.inr ⟨by go_num, Lib.hid HN.out⟩, HT.out⟩
            case measure => (simp [intOf]; try omega)
          | succ j =>
            go_roundw
            case rel => exact ⟨.inl ⟨j, by omega, by go_num, Lib.hid HN.out⟩, HT.out⟩
            case measure => (simp [intOf]; try omega)
    · have HC := Lib.hid (cmp_eq HL.out)
      go_wp2
      go_ret
      exact ⟨ret1 (by rw [HC.out]; rfl), HT.out.le⟩
end Go.Proofs.YtlpgflmjpdhpnaaDoor
