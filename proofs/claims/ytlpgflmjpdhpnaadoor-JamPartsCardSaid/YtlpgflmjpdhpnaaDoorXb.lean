/- Contracts of wide.Of, wide.Not and wide.Mul. -/
import Derived.Test.YtlpgflmjpdhpnaaDoorRows
import Derived.Test.YtlpgflmjpdhpnaaDoorH
import Derived.Test.YtlpgflmjpdhpnaaDoorW
namespace Go.Proofs.YtlpgflmjpdhpnaaDoor
open Go.RowKit
set_option maxHeartbeats 4000000
set_option maxRecDepth 100000
set_option linter.unusedVariables false
set_option linter.unusedSimpArgs false
theorem wof_c (x : Nat) (w : World) (hx : x < 18446744073709551616) : Calls Tryd.prog 25 #[.int .u64 (x : Nat)] w fun e w' => e = .returned (.agg (wv x)) ∧ Below w.heap.size w w' := by
  have e : wv x = #[.int .u64 (x : Nat), .int .u64 0, .int .u64 0, .int .u64 0, .int .u64 0, .int .u64 0] := by
    have := wv_top (S := 0) (k := 0) (x := x) (by decide) hx
    rw [wv_zero, Bk_zero, Nat.mul_one, Nat.zero_add] at this
    rw [← this]; rfl
  have E := Lib.hid e
  clear e hx
  go_enter Tryd.func25, Tryd.ntmps25
  go_wp2
  refine bodyPost_ret (results_cell rfl _ _ w.heap.size 24 _ _ rfl (Blk.new w _ 24) Tryd.underlying24 rfl (by kernel_rfl)) rfl ?_
  exact ⟨ret1 (by rw [E.out]), (Below.refl _ _).alloc (Nat.le_refl _) _⟩
theorem wnot_c (A : Nat) (w : World) (hA : A < W384) : Calls Tryd.prog 41 #[.agg (wv A)] w fun e w' => e = .returned (.agg (wv (notW A))) ∧ Below w.heap.size w w' := by
  have hst : wv A = cellsN 6 (fun i => if i < 0 then notl A i else limb A i) := cellsN_congr fun i _ => by simp
  have hend : cellsN 6 (fun i => if i < 6 then notl A i else limb A i) = wv (notW A) := cellsN_congr fun i hi => by rw [if_pos hi, limb_not hA i hi]
  have HS := Lib.hid hst
  have HE := Lib.hid hend
  clear hst hend hA
  go_enter Tryd.func41, Tryd.ntmps41
  go_wp2
  go_loopw [4] (fun i wr => ∃ (k : Nat), k ≤ 6 ∧ i = .int .i64 k ∧ Blks [(cellsN 6 (fun i => if i < k then notl A i else limb A i), 24), (wv 0, 24)] w.heap.size w wr) (fun i _ => 6 - (intOf i).toNat)
  case atStart =>
    refine ⟨0, by omega, rfl, ?_⟩
    rw [← HS.out, wv_zero]
    exact ((Blks.nil w).alloc rfl _ _).alloc (by simp) _ _
  case round =>
    obtain ⟨k, hk, rfl, HT⟩ := hrel
    replace HT := Lib.hid HT
    by_cases hlt : k < 6
    · have c1 : wr.cell? ⟨w.heap.size, k, none⟩ = some (.int .u64 (limb A k : Nat)) := by
        have := ((HT.out.all 0 _ rfl).cell k).trans (cellsN_get _ _ k hlt)
        simpa using this
      have c2 : wr.frozen? ⟨w.heap.size, k, none⟩ = false := (HT.out.all 0 _ rfl).frozen k
      have c3 : bits .xor .u64 (if IntKind.u64.signed = true then -1 else IntKind.u64.max) (limb A k : Nat) = ((notl A k : Nat) : Int) := not_int _ (limb_lt A k)
      have HN : Hid (Blks [(cellsN 6 (fun i => if i < k + 1 then notl A i else limb A i), 24), (wv 0, 24)] w.heap.size w (wr.setCell ⟨w.heap.size, k, none⟩ (.int .u64 (notl A k : Nat)))) := Lib.hid (by
        have := HT.out.setCell 0 k (.int .u64 (notl A k : Nat)) _ _ rfl
        rw [cellsN_set] at this
        rw [show cellsN 6 (fun i => if i < k + 1 then notl A i else limb A i) = cellsN 6 (upd (fun i => if i < k then notl A i else limb A i) k (notl A k)) by rw [upd_prefix (notl A) (limb A) k]]
        exact this)
      go_wp2
      go_roundw
      case rel => exact ⟨k + 1, by omega, by go_num, HN.out⟩
      case measure => (simp [intOf]; try omega)
    · obtain rfl : k = 6 := by omega
      rw [HE.out] at HT
      go_wp2_with (first
        | (refine wpList_load_blk rfl 24 _ rfl (w.heap.size) rfl 24 (wv (notW A)) _ (HT.out.all 0 _ rfl) Tryd.underlying24 rfl (by kernel_rfl) ?_)
        | (refine wpList_store_blk rfl 24 _ _ rfl (w.heap.size + 1) (wv (notW A)) rfl rfl 24 (wv 0) (HT.out.all 1 _ rfl) (by kernel_rfl) rfl (wv_one _) ?_))
      refine bodyPost_ret (results_cell rfl _ _ (w.heap.size + 1) 24 (wv (notW A)) _ rfl ((HT.out.setRow 1 (wv (notW A)) _ _ rfl).all 1 _ rfl) Tryd.underlying24 rfl (by kernel_rfl)) rfl ?_
      exact ⟨rfl, (HT.out.setRow 1 (wv (notW A)) _ _ rfl).le⟩
end Go.Proofs.YtlpgflmjpdhpnaaDoor
