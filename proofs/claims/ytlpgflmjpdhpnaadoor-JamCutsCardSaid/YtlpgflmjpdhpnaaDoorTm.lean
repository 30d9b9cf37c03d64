/- Contracts of Mask (wide and abacusref02), abacusref02.Not. -/
import Derived.Test.YtlpgflmjpdhpnaaDoorRows
import Derived.Test.YtlpgflmjpdhpnaaDoorE
import Derived.Test.YtlpgflmjpdhpnaaDoorB
import Derived.Test.YtlpgflmjpdhpnaaDoorW
import Derived.Test.YtlpgflmjpdhpnaaDoorXi
namespace Go.Proofs.YtlpgflmjpdhpnaaDoor
open Go.RowKit
set_option maxHeartbeats 4000000
set_option maxRecDepth 100000
set_option linter.unusedVariables false
set_option linter.unusedSimpArgs false
set_option exponentiation.threshold 1000
theorem limb_mask (c k : Nat) : limb (2 ^ c - 1) k = 2 ^ clamp ((c : Int) - 64 * (k : Int)) 64 - 1 := by
  apply Nat.eq_of_testBit_eq
  intro j
  rw [limb_bit, Nat.testBit_two_pow_sub_one, Nat.testBit_two_pow_sub_one, ← Bool.decide_and]
  apply decide_eq_decide.2
  unfold clamp
  omega
theorem mask_lt {c : Nat} (hc : c ≤ 384) : 2 ^ c - 1 < W384 := by
  have h1 := Nat.two_pow_pos c
  have h2 : 2 ^ c ≤ W384 := by rw [W384_two]; exact Nat.pow_le_pow_right (by decide) hc
  omega
@[irreducible] def maskN (c : Nat) : Nat := 2 ^ c - 1
theorem maskN_eq (c : Nat) : maskN c = 2 ^ c - 1 := by unfold maskN; rfl
theorem maskN_limb (c k : Nat) : limb (maskN c) k = 2 ^ clamp ((c : Int) - 64 * (k : Int)) 64 - 1 := by rw [maskN_eq]; exact limb_mask c k
theorem maskN_zero : maskN 0 = 0 := by rw [maskN_eq]
theorem maskN_bit (k : Nat) : (maskN k).testBit k = false := by rw [maskN_eq, Nat.testBit_two_pow_sub_one, decide_eq_false (Nat.lt_irrefl k)]
theorem maskN_succ (k : Nat) : maskN k + 2 ^ k = maskN (k + 1) := by
  have := Nat.two_pow_pos k
  rw [maskN_eq, maskN_eq, Nat.pow_succ]; omega
theorem maskN_lt {c : Nat} (hc : c ≤ 384) : maskN c < W384 := by rw [maskN_eq]; exact mask_lt hc
theorem wmask_c (n : Int) (w : World) : Calls Tryd.prog 35 #[.int .i64 n] w fun e w' => e = .returned (.agg (wv (maskN (clamp n 384)))) ∧ Below w.heap.size w w' := by
  have hc := clamp_le n 384
  obtain ⟨c, hcc⟩ : ∃ c, clamp n 384 = c := ⟨_, rfl⟩
  have C1 : Hid (∀ W, Calls Tryd.prog 46 #[.int .i64 n] W fun e w' => e = .returned (.int .i64 (c : Nat)) ∧ w' = W) := Lib.hid fun W => by rw [← hcc]; exact wcount_c n W
  rw [hcc] at hc ⊢
  clear hcc
  have HE : Hid (cellsN 6 (fun j => if j < 6 then limb (maskN c) j else 0) = wv (maskN c)) := Lib.hid (cellsN_congr fun i hi => by rw [if_pos hi])
  have HS : Hid (wv 0 = cellsN 6 (fun j => if j < 0 then limb (maskN c) j else 0)) := Lib.hid (cellsN_congr fun i _ => by rw [if_neg (by omega)]; exact limb_zero i)
  go_enter Tryd.func35, Tryd.ntmps35
  go_wp2_with (go_at_call 46; (with_reducible refine (C1.out _).mono ?_); rintro e w' ⟨rfl, rfl⟩)
  go_loopw [7] (fun i wr => ∃ (k : Nat), k ≤ 6 ∧ i = .int .i64 k ∧ Blks [(wv 0, 24), (cellsN 6 (fun j => if j < k then limb (maskN c) j else 0), 24)] w.heap.size w wr) (fun i _ => 6 - (intOf i).toNat)
  case atStart =>
    refine ⟨0, by omega, rfl, ?_⟩
    rw [← HS.out, wv_zero]
    exact ((Blks.nil w).alloc rfl _ _).alloc (by simp) _ _
  case round =>
    clear HS C1
    obtain ⟨k, hk, rfl, HT⟩ := hrel
    replace HT := Lib.hid HT
    by_cases hlt : k < 6
    · obtain ⟨y, hy⟩ : ∃ y, limb (maskN c) k = y := ⟨_, rfl⟩
      obtain ⟨m, hm⟩ : ∃ m, 64 * k = m := ⟨_, rfl⟩
      obtain ⟨z, hz⟩ : ∃ z : Int, (c : Int) - (m : Int) = z := ⟨_, rfl⟩
      have K1 : 64 * (k : Int) = (m : Int) := by omega
      have hz1 : -384 ≤ z := by omega
      have hz2 : z ≤ 384 := by omega
      have hm6 : m < 384 := by omega
      have C2 : Hid (∀ W, Calls Tryd.prog 55 #[.int .i64 z] W fun e w' => e = .returned (.int .u64 (y : Nat)) ∧ w' = W) := Lib.hid fun W => by
        have := mask_c ((c : Int) - 64 * (k : Int)) W
        rwa [← maskN_limb, hy, K1, hz] at this
      have c1 : wr.cell? ⟨w.heap.size + 1, k, none⟩ = some _ := ((HT.out.all 1 _ rfl).cell k).trans (cellsN_get _ _ k hlt)
      have c2 : wr.frozen? ⟨w.heap.size + 1, k, none⟩ = false := (HT.out.all 1 _ rfl).frozen k
      have HN : Hid (Blks [(wv 0, 24), (cellsN 6 (fun j => if j < k + 1 then limb (maskN c) j else 0), 24)] w.heap.size w (wr.setCell ⟨w.heap.size + 1, k, none⟩ (.int .u64 (y : Nat)))) := Lib.hid (by
        have := HT.out.setCell 1 k (.int .u64 (y : Nat)) _ _ rfl
        rw [cellsN_set, ← hy, upd_up] at this
        rw [← hy]
        exact this)
      clear hy HT hm
      go_wp2_with (go_at_call 55; (with_reducible refine (C2.out _).mono ?_); rintro e w' ⟨rfl, rfl⟩)
      go_roundw
      case rel => exact ⟨k + 1, by omega, by go_num, HN.out⟩
      case measure => (simp [intOf]; try omega)
    · obtain rfl : k = 6 := by omega
      rw [HE.out] at HT
      go_wp2_with (first
        | (refine wpList_load_blk rfl 24 _ rfl (w.heap.size + 1) rfl 24 (wv (maskN c)) _ (HT.out.all 1 _ rfl) Tryd.underlying24 rfl (by kernel_rfl) ?_)
        | (refine wpList_store_blk rfl 24 _ _ rfl (w.heap.size) (wv (maskN c)) rfl rfl 24 (wv 0) (HT.out.all 0 _ rfl) (by kernel_rfl) rfl (wv_one _) ?_))
      refine bodyPost_ret (results_cell rfl _ _ w.heap.size 24 (wv (maskN c)) _ rfl ((HT.out.setRow 0 (wv (maskN c)) _ _ rfl).all 0 _ rfl) Tryd.underlying24 rfl (by kernel_rfl)) rfl ?_
      exact ⟨rfl, (HT.out.setRow 0 (wv (maskN c)) _ _ rfl).le⟩
theorem rmask2_c (n : Int) (w : World) : Calls Tryd.prog 36 #[.int .i64 n] w fun e w' => e = .returned (.agg (wv (maskN (clamp n 384)))) ∧ Below w.heap.size w w' := by
  have hc := clamp_le n 384
  obtain ⟨c, hcc⟩ : ∃ c, clamp n 384 = c := ⟨_, rfl⟩
  have C1 : Hid (∀ W, Calls Tryd.prog 48 #[.int .i64 n] W fun e w' => e = .returned (.int .i64 (c : Nat)) ∧ w' = W) := Lib.hid fun W => by rw [← hcc]; exact rcount2_c n W
  rw [hcc] at hc ⊢
  clear hcc
  go_enter Tryd.func36, Tryd.ntmps36
  go_wp2_with (go_at_call 48; (with_reducible refine (C1.out _).mono ?_); rintro e w' ⟨rfl, rfl⟩)
  go_loopw [4] (fun i wr => ∃ (k : Nat), k ≤ c ∧ i = .int .i64 k ∧ Blks [(wv 0, 24), (wv (maskN k), 24)] w.heap.size w wr) (fun i _ => c - (intOf i).toNat)
  case atStart =>
    refine ⟨0, by omega, rfl, ?_⟩
    rw [maskN_zero, wv_zero]
    exact ((Blks.nil w).alloc rfl _ _).alloc (by simp) _ _
  case round =>
    clear C1
    obtain ⟨k, hk, rfl, HT⟩ := hrel
    replace HT := Lib.hid HT
    by_cases hlt : k < c
    · have hb := maskN_bit k
      have f1 := or_bit (maskN k) k (by omega) hb
      have f1' := or_bit' (maskN k) k (by omega) hb
      have hset := wv_bit hb
      rw [maskN_succ] at f1 f1' hset
      have hk6 : k / 64 < 6 := by omega
      have c1 : wr.cell? ⟨w.heap.size + 1, k / 64, none⟩ = some (.int .u64 (limb (maskN k) (k / 64) : Nat)) := ((HT.out.all 1 _ rfl).cell _).trans (wv_get _ _ hk6)
      have c2 : wr.frozen? ⟨w.heap.size + 1, k / 64, none⟩ = false := (HT.out.all 1 _ rfl).frozen _
      obtain ⟨y, hy⟩ : ∃ y, limb (maskN (k + 1)) (k / 64) = y := ⟨_, rfl⟩
      rw [hy] at f1 f1' hset
      obtain ⟨T, hTT⟩ : ∃ T, maskN k = T := ⟨_, rfl⟩
      have HN : Hid (Blks [(wv 0, 24), (wv (maskN (k + 1)), 24)] w.heap.size w (wr.setCell ⟨w.heap.size + 1, k / 64, none⟩ (.int .u64 (y : Nat)))) := Lib.hid (by
        have := HT.out.setCell 1 (k / 64) (.int .u64 (y : Nat)) _ _ rfl
        rw [hset] at this
        exact this)
      rw [hTT] at f1 f1' c1
      have hlti : (k : Int) < (c : Int) := by omega
      clear hy HT hset hb hTT
      go_wp2
      go_roundw
      case rel => exact ⟨k + 1, by omega, by go_num, HN.out⟩
      case measure => (simp [intOf]; try omega)
    · obtain rfl : k = c := by omega
      go_wp2_with (first
        | (refine wpList_load_blk rfl 24 _ rfl (w.heap.size + 1) rfl 24 (wv (maskN k)) _ (HT.out.all 1 _ rfl) Tryd.underlying24 rfl (by kernel_rfl) ?_)
        | (refine wpList_store_blk rfl 24 _ _ rfl (w.heap.size) (wv (maskN k)) rfl rfl 24 (wv 0) (HT.out.all 0 _ rfl) (by kernel_rfl) rfl (wv_one _) ?_))
      refine bodyPost_ret (results_cell rfl _ _ w.heap.size 24 (wv (maskN k)) _ rfl ((HT.out.setRow 0 (wv (maskN k)) _ _ rfl).all 0 _ rfl) Tryd.underlying24 rfl (by kernel_rfl)) rfl ?_
      exact ⟨rfl, (HT.out.setRow 0 (wv (maskN k)) _ _ rfl).le⟩
theorem rnot2_c (A : Nat) (w : World) (hA : A < W384) : Calls Tryd.prog 42 #[.agg (wv A)] w fun e w' => e = .returned (.agg (wv (notW A))) ∧ Below w.heap.size w w' := by
  have hst : wv A = cellsN 6 (fun i => if i < 0 then notl A i else limb A i) := cellsN_congr fun i _ => by simp
  have hend : cellsN 6 (fun i => if i < 6 then notl A i else limb A i) = wv (notW A) := cellsN_congr fun i hi => by rw [if_pos hi, limb_not hA i hi]
  have HS := Lib.hid hst
  have HE := Lib.hid hend
  clear hst hend hA
  go_enter Tryd.func42, Tryd.ntmps42
  go_wp2
  go_loopw [3] (fun i wr => ∃ (k : Nat), k ≤ 6 ∧ i = .int .i64 k ∧ Blks [(cellsN 6 (fun i => if i < k then notl A i else limb A i), 24), (wv 0, 24)] w.heap.size w wr) (fun i _ => 6 - (intOf i).toNat)
  case atStart =>
    refine ⟨0, by omega, rfl, ?_⟩
    rw [← HS.out, wv_zero]
    exact ((Blks.nil w).alloc rfl _ _).alloc (by simp) _ _
  case round =>
    obtain ⟨k, hk, rfl, HT⟩ := hrel
    replace HT := Lib.hid HT
    by_cases hlt : k < 6
    · have c1 : wr.cell? ⟨w.heap.size, k, none⟩ = some (.int .u64 (limb A k : Nat)) := by
        have := ((HT.out.all 0 _ rfl).cell k).trans (cellsN_get _ _ k hlt)
        simpa using this
      have c2 : wr.frozen? ⟨w.heap.size, k, none⟩ = false := (HT.out.all 0 _ rfl).frozen k
      have c3 : bits .xor .u64 (if IntKind.u64.signed = true then -1 else IntKind.u64.max) (limb A k : Nat) = ((notl A k : Nat) : Int) := not_int _ (limb_lt A k)
      have HN : Hid (Blks [(cellsN 6 (fun i => if i < k + 1 then notl A i else limb A i), 24), (wv 0, 24)] w.heap.size w (wr.setCell ⟨w.heap.size, k, none⟩ (.int .u64 (notl A k : Nat)))) := Lib.hid (by
        have := HT.out.setCell 0 k (.int .u64 (notl A k : Nat)) _ _ rfl
        rw [cellsN_set] at this
        rw [show cellsN 6 (fun i => if i < k + 1 then notl A i else limb A i) = cellsN 6 (upd (fun i => if i < k then notl A i else limb A i) k (notl A k)) by rw [upd_prefix (notl A) (limb A) k]]
        exact this)
      go_wp2
      go_roundw
      case rel => exact ⟨k + 1, by omega, by go_num, HN.out⟩
      case measure => (simp [intOf]; try omega)
    · obtain rfl : k = 6 := by omega
      rw [HE.out] at HT
      go_wp2_with (first
        | (refine wpList_load_blk rfl 24 _ rfl (w.heap.size) rfl 24 (wv (notW A)) _ (HT.out.all 0 _ rfl) Tryd.underlying24 rfl (by kernel_rfl) ?_)
        | (refine wpList_store_blk rfl 24 _ _ rfl (w.heap.size + 1) (wv (notW A)) rfl rfl 24 (wv 0) (HT.out.all 1 _ rfl) (by kernel_rfl) rfl (wv_one _) ?_))
      refine bodyPost_ret (results_cell rfl _ _ (w.heap.size + 1) 24 (wv (notW A)) _ rfl ((HT.out.setRow 1 (wv (notW A)) _ _ rfl).all 1 _ rfl) Tryd.underlying24 rfl (by kernel_rfl)) rfl ?_
      exact ⟨rfl, (HT.out.setRow 1 (wv (notW A)) _ _ rfl).le⟩
end Go.Proofs.YtlpgflmjpdhpnaaDoor
