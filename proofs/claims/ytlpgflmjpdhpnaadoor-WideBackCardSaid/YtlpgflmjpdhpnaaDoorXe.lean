/- The contract of wide.Text. -/
import Derived.Test.YtlpgflmjpdhpnaaDoorXc
namespace Go.Proofs.YtlpgflmjpdhpnaaDoor
open Go.RowKit
set_option maxHeartbeats 4000000
set_option maxRecDepth 100000
set_option linter.unusedVariables false
set_option linter.unusedSimpArgs false
theorem wtext_c (A : Nat) (w : World) (hA : A < W384) : Calls Tryd.prog 44 #[.agg (wv A)] w fun e w' => e = .returned (.string ⟨(textL A (txtN A)).toArray⟩) ∧ Below w.heap.size w w' := by
  obtain ⟨N, hN⟩ : ∃ N, txtN A = N := ⟨_, rfl⟩
  obtain ⟨hN1, hN2⟩ := txtN_le hA
  rw [hN] at hN1 hN2
  have hK : max 1 ((((lenW A : Nat) : Int) + 3) / 4) = (N : Int) := by rw [← hN]; unfold txtN; omega
  have hL := (lenW_spec hA).2
  have HA := Lib.hid hA
  have HN := Lib.hid hN
  clear hA hN
  have hmk : ∀ w : World, (Instr.makeSlice 56 (.int .i64 (N : Nat)) (.int .i64 (N : Nat))).run Tryd.prog w = .ok (.slice (some ⟨w.heap.size, 0, none⟩) N N) (w.alloc (.cells (cellsB N fun _ => 0) 5)) := run_make_bytes Tryd.underlying56 (by kernel_rfl) N (by omega)
  go_enter Tryd.func44, Tryd.ntmps44
  have HS : Hid (Blks [(wv A, 24)] w.heap.size w (w.alloc (.cells (wv A) 24))) := Lib.hid ((Blks.nil w).alloc rfl _ _)
  go_wp2_with (first
    | (refine wpList_load_blk rfl 24 _ rfl (w.heap.size) rfl 24 (wv A) _ (HS.out.all 0 _ rfl) Tryd.underlying24 rfl (by kernel_rfl) ?_)
    | (go_at_call 21; (with_reducible refine (wlen_c A _ HA.out).mono ?_); rintro e w1 ⟨rfl, hb⟩))
  have hlt : w.heap.size < w1.heap.size := Nat.lt_of_lt_of_le (by simp) hb.size
  have B1 : Blks [(wv A, 24)] w.heap.size w w1 := HS.out.call (by simp) hb
  go_loopw [16] (fun j wr => ∃ (k : Nat), k ≤ N ∧ j = .int .i64 k ∧ Blk wr w.heap.size (wv A) 24 ∧ Blk wr w1.heap.size (cellsB N fun i => if i < k then digb (nib A (N - (1 + i))) else 0) 5 ∧ Below w.heap.size w wr) (fun j _ => N - (intOf j).toNat)
  case atStart =>
    refine ⟨0, by omega, rfl, (B1.all 0 _ rfl).alloc _, ?_, B1.le.alloc (Nat.le_of_lt hlt) _⟩
    rw [cellsB_congr (g := fun _ => 0) fun i _ => by simp]
    exact Blk.new _ _ _
  case round =>
    clear HS B1 hb
    obtain ⟨k, hk, rfl, H1, H2, H3⟩ := hrel
    replace H1 := Lib.hid H1
    replace H2 := Lib.hid H2
    replace H3 := Lib.hid H3
    by_cases hlt2 : k < N
    · obtain ⟨K, hKK⟩ : ∃ K, N - (1 + k) = K := ⟨_, rfl⟩
      have K1 : (N : Int) - 1 - (k : Int) = (K : Int) := by omega
      have hK96 : K < 96 := by omega
      have c1 : wr.cell? ⟨w.heap.size, K / 16, none⟩ = some (.int .u64 (limb A (K / 16) : Nat)) := (H1.out.cell _).trans (wv_get _ _ (by omega))
      have f1 : bits .and .u64 (((limb A (K / 16) : Nat) : Int) / 2 ^ (4 * (K % 16))) 15 = ((nib A K : Nat) : Int) := and_fifteen _ _
      have hD := nib_lt A K
      obtain ⟨d, hd⟩ : ∃ d, nib A K = d := ⟨_, rfl⟩
      rw [hd] at f1 hD
      have f2 := run_digit (P := Tryd.prog) Tryd.underlying9 d hD
      have c2 : wr.cell? ⟨w1.heap.size, k, none⟩ = some _ := (H2.out.cell k).trans (cellsB_get _ _ _ hlt2)
      have c3 : wr.frozen? ⟨w1.heap.size, k, none⟩ = false := H2.out.frozen k
      have G1 := Lib.hid (H1.out.other (b' := w1.heap.size) k (.int .u8 (digb d : Nat)) (by omega))
      have G2 : Hid (Blk (wr.setCell ⟨w1.heap.size, k, none⟩ (.int .u8 (digb d : Nat))) w1.heap.size (cellsB N fun i => if i < k + 1 then digb (nib A (N - (1 + i))) else 0) 5) := Lib.hid (by
        have := H2.out.set k (.int .u8 (digb d : Nat))
        rw [cellsB_set] at this
        rw [← upd_prefix (fun i => digb (nib A (N - (1 + i)))) (fun _ => 0) k]
        rw [hKK, hd]
        exact this)
      have G3 : Hid (Below w.heap.size w (wr.setCell ⟨w1.heap.size, k, none⟩ (.int .u8 (digb d : Nat)))) := Lib.hid (H3.out.setCell (Nat.le_of_lt hlt) _)
      clear hKK hd H1 H2 H3
      go_wp2
      go_roundw
      case rel => exact ⟨k + 1, by omega, by go_num, G1.out, G2.out, G3.out⟩
      case measure => (simp [intOf]; try omega)
    · obtain rfl : k = N := by omega
      have hcv : ∀ (dst : TypeId), Tryd.prog.underlying dst = some .string → (convert 56 dst (.slice (some ⟨w1.heap.size, 0, none⟩) k k)).run Tryd.prog wr = .ok (.string ⟨(textL A k).toArray⟩) wr := fun dst hd => by
        have := run_convert_bytes_back (P := Tryd.prog) wr 56 dst 5 ⟨w1.heap.size, 0, none⟩ k (textL A k) Tryd.underlying56 Tryd.underlying5 hd (fun j hj => by
          have hj' : j < k := by simpa [textL] using hj
          have hp : (⟨w1.heap.size, 0, none⟩ : Addr).add j = ⟨w1.heap.size, 0 + j, none⟩ := by unfold Addr.add; split <;> simp_all
          rw [hp, Nat.zero_add, H2.out.cell, cellsB_get _ _ _ hj', if_pos hj']
          have hb : digb (nib A (k - (1 + j))) < 256 := digb_lt (nib_lt _ _)
          simp [textL]
          omega)
        rwa [show (textL A k).length = k by simp [textL]] at this
      have hcv2 := hcv 9 Tryd.underlying9
      clear hcv
      go_wp2
      go_ret
      exact ⟨ret1 (congrArg (fun n => Value.string ⟨(textL A n).toArray⟩) HN.out).symm, H3.out⟩
end Go.Proofs.YtlpgflmjpdhpnaaDoor
