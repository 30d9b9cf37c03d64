/- abacusref24.Moded, Fits. -/
import Derived.Test.YteelconabmfnkaaTf
import Derived.Test.YteelconabmfnkaaKka
namespace Go.Proofs.Yteelconabmfnkaa
open Go Go.RowKit
set_option maxHeartbeats 4000000
set_option maxRecDepth 100000
set_option linter.unusedVariables false
set_option linter.unusedSimpArgs false
theorem rmoded_c (w : World) (l : Nat) : Calls Try.prog 38 #[.int .u8 l] w fun e w' => e = .returned (.bool (modB l)) ∧ w' = w := by
  have e3 : ((l : Int) == 3) = (l == 3) := by rw [Bool.eq_iff_iff]; simp; omega
  have e4 : ((l : Int) == 4) = (l == 4) := by rw [Bool.eq_iff_iff]; simp; omega
  have e6 : ((l : Int) == 6) = (l == 6) := by rw [Bool.eq_iff_iff]; simp; omega
  go_enter Try.func38, Try.ntmps38
  cases h3 : (l == 3) <;> cases h4 : (l == 4) <;> cases h6 : (l == 6) <;> rw [h3] at e3 <;> rw [h4] at e4 <;> rw [h6] at e6 <;>
  · go_wp2
    go_ret
    exact ⟨ret1 (vbool (by unfold modB; rw [h3, h4, h6]; rfl)), rfl⟩
theorem and_bit (x k : Nat) (hx : x < 4294967296) : bits .and .u32 ((x : Int) / 2 ^ k) 1 = ((x / 2 ^ k % 2 : Nat) : Int) := by
  have h1 : (x : Int) / 2 ^ k = ((x / 2 ^ k : Nat) : Int) := by simp
  have h2 : x / 2 ^ k < 4294967296 := Nat.lt_of_le_of_lt (Nat.div_le_self _ _) hx
  rw [h1, show (1 : Int) = ((1 : Nat) : Int) from rfl, and32 _ 1 h2 (by decide)]
  congr 1
  exact Nat.and_two_pow_sub_one_eq_mod (x / 2 ^ k) 1
/-- the first k bits are as the row wants them -/
def bitsTo (r : R7) (w k : Nat) : Prop := ∀ j, j < k → r.mask / 2 ^ j % 2 = 1 → w / 2 ^ j % 2 = r.mtch / 2 ^ j % 2
theorem bit_of (x j : Nat) : x.testBit j = decide (x / 2 ^ j % 2 = 1) := by rw [Nat.testBit_eq_decide_div_mod_eq]
theorem bits_all {r : R7} {w : Nat} (hw : w < 4294967296) (ht : r.mtch < 4294967296) (hm : r.mask < 4294967296) (h : bitsTo r w 32) : (w ^^^ r.mtch) &&& r.mask = 0 := by
  apply Nat.eq_of_testBit_eq
  intro i
  rw [Nat.testBit_and, Nat.testBit_xor, Nat.zero_testBit]
  by_cases hi : i < 32
  · have := h i hi
    rw [bit_of w, bit_of r.mtch, bit_of r.mask]
    rcases Nat.mod_two_eq_zero_or_one (r.mask / 2 ^ i) with e | e
    · rw [e]; simp
    · rw [e, this e]; simp
  · have : r.mask.testBit i = false := Nat.testBit_lt_two_pow (Nat.lt_of_lt_of_le (show r.mask < 2 ^ 32 from hm) (Nat.pow_le_pow_right (n := 2) (by decide) (show 32 ≤ i by omega)))
    rw [this, Bool.and_false]
theorem bits_not {r : R7} {w k : Nat} (h1 : r.mask / 2 ^ k % 2 = 1) (h2 : w / 2 ^ k % 2 ≠ r.mtch / 2 ^ k % 2) : ((w ^^^ r.mtch) &&& r.mask == 0) = false := by
  rw [beq_eq_false_iff_ne]
  intro h
  have := congrArg (·.testBit k) h
  simp only [Nat.testBit_and, Nat.testBit_xor, Nat.zero_testBit] at this
  rw [bit_of w, bit_of r.mtch, bit_of r.mask, h1] at this
  rcases Nat.mod_two_eq_zero_or_one (w / 2 ^ k) with e | e <;> rcases Nat.mod_two_eq_zero_or_one (r.mtch / 2 ^ k) with f | f <;> rw [e, f] at this h2 <;> simp at this h2
theorem rfits_c (W : World) (r : R7) (w : Nat) (hm : r.mask < 4294967296) (ht : r.mtch < 4294967296) (hw : w < 4294967296) :
    Calls Try.prog 36 #[.agg (rowV r), .int .u32 w] W fun e w' => e = .returned (.bool (fitsB r w)) ∧ Below W.heap.size W w' := by
  obtain ⟨A, hA⟩ : ∃ A, W.alloc (.cells (rowV r) 40) = A := ⟨_, rfl⟩
  have kR := Blk.new W (rowV r) 40
  have kB := (Below.refl W.heap.size W).alloc (Nat.le_refl _) (.cells (rowV r) 40)
  rw [hA] at kR kB
  have c4 : A.cell? ⟨W.heap.size, 4, none⟩ = some (.int .u32 (r.mask : Nat)) := kR.cell 4
  have c5 : A.cell? ⟨W.heap.size, 5, none⟩ = some (.int .u32 (r.mtch : Nat)) := kR.cell 5
  have c6 : A.cell? ⟨W.heap.size, 6, none⟩ = some (.int .u8 (r.lay : Nat)) := kR.cell 6
  have KB := Lib.hid kB
  have C1 := Lib.hid (fun W => rmoded_c W r.lay)
  have H0 : Hid (bitsTo r w 0) := Lib.hid (fun j h => by omega)
  have HA := Lib.hid hA
  clear kR kB hA
  go_enter Try.func36, Try.ntmps36
  go_wp2
  show Code.wp _ _ _ _ (W.alloc (.cells (rowV r) 40))
  rw [HA.out]
  clear HA
  go_loopw [5] (fun i wr => ∃ k q : Nat, k ≤ 32 ∧ i = .int .i64 k ∧ wr = A.drewN q ∧ Hid (bitsTo r w k)) (fun i _ => 32 - (intOf i).toNat)
  case atStart => exact ⟨0, 0, by omega, rfl, rfl, H0⟩
  case round =>
    obtain ⟨k, q, hk, rfl, rfl, HP⟩ := hrel
    clear H0
    by_cases hlt : k < 32
    · have e1 := and_bit r.mask k hm
      have e2 := and_bit r.mtch k ht
      have e3 := and_bit w k hw
      obtain ⟨mb, hmb⟩ : ∃ x, r.mask / 2 ^ k % 2 = x := ⟨_, rfl⟩
      obtain ⟨tb, htb⟩ : ∃ x, r.mtch / 2 ^ k % 2 = x := ⟨_, rfl⟩
      obtain ⟨wb, hwb⟩ : ∃ x, w / 2 ^ k % 2 = x := ⟨_, rfl⟩
      rw [hmb] at e1
      rw [htb] at e2
      rw [hwb] at e3
      by_cases h1 : mb = 1
      · subst h1
        by_cases h2 : wb = tb
        · have z : ((wb : Int) != (tb : Int)) = false := by rw [h2]; simp
          have HQ : Hid (bitsTo r w (k + 1)) := Lib.hid (fun j hj hb => by
            rcases Nat.lt_succ_iff_lt_or_eq.1 hj with h | rfl
            · exact HP.out j h hb
            · rw [hwb, htb, h2])
          clear hmb htb hwb h2
          go_wp2
          refine wp_region_sets_lit (fun _ w' => ∃ q, w' = A.drewN q) (by kernel_rfl) (by kernel_rfl) ⟨q + 1, rfl⟩ ?_
          (repeat (first | (refine sets_quiet (fun w' => ∃ q, w' = A.drewN q) (fun _ _ h => h) rfl (fun _ _ _ h => h) rfl ?_; intro K hK; go_big_quiet_op; first | go_big_quiet_on | (refine ⟨_, fun _ => rfl, ?_⟩; go_big_quiet_on)) | (refine sets_nil rfl (fun _ _ _ h => h) _ rfl _ rfl ?_; simp only [Act.put, List.setIfInBounds_toArray, List.set_cons_succ, List.set_cons_zero]) | (refine sets_skip rfl (fun _ _ _ h => h) ?_; simp only [Act.put, List.setIfInBounds_toArray, List.set_cons_succ, List.set_cons_zero])))
          rintro S _ _ ⟨q2, rfl⟩
          go_wp2
          go_roundw
          case rel => exact ⟨k + 1, q2, by omega, by go_num, rfl, HQ⟩
          case measure => simp [intOf]; omega
        · have z : ((wb : Int) != (tb : Int)) = true := by rw [bne_iff_ne]; omega
          have HQ := Lib.hid (bits_not (r := r) (w := w) (k := k) hmb (by rw [hwb, htb]; exact h2))
          clear hmb htb hwb h2
          go_wp2
          refine wp_region_sets_lit (fun _ w' => ∃ q, w' = A.drewN q) (by kernel_rfl) (by kernel_rfl) ⟨q + 1, rfl⟩ ?_
          (repeat (first | (refine sets_quiet (fun w' => ∃ q, w' = A.drewN q) (fun _ _ h => h) rfl (fun _ _ _ h => h) rfl ?_; intro K hK; go_big_quiet_op; first | go_big_quiet_on | (refine ⟨_, fun _ => rfl, ?_⟩; go_big_quiet_on)) | (refine sets_nil rfl (fun _ _ _ h => h) _ rfl _ rfl ?_; simp only [Act.put, List.setIfInBounds_toArray, List.set_cons_succ, List.set_cons_zero]) | (refine sets_skip rfl (fun _ _ _ h => h) ?_; simp only [Act.put, List.setIfInBounds_toArray, List.set_cons_succ, List.set_cons_zero])))
          rintro S _ _ ⟨q2, rfl⟩
          go_wp2
          go_ret
          exact ⟨ret1 (vbool (by unfold fitsB; rw [HQ.out]; rfl)), below_drewN KB.out⟩
      · have z : ((mb : Int) == 1) = false := by rw [beq_eq_false_iff_ne]; omega
        have HQ : Hid (bitsTo r w (k + 1)) := Lib.hid (fun j hj hb => by
            rcases Nat.lt_succ_iff_lt_or_eq.1 hj with h | rfl
            · exact HP.out j h hb
            · rw [hmb] at hb; exact absurd hb h1)
        clear hmb htb hwb h1
        go_wp2
        refine wp_region_sets_lit (fun _ w' => ∃ q, w' = A.drewN q) (by kernel_rfl) (by kernel_rfl) ⟨q + 1, rfl⟩ ?_
        (repeat (first | (refine sets_quiet (fun w' => ∃ q, w' = A.drewN q) (fun _ _ h => h) rfl (fun _ _ _ h => h) rfl ?_; intro K hK; go_big_quiet_op; first | go_big_quiet_on | (refine ⟨_, fun _ => rfl, ?_⟩; go_big_quiet_on)) | (refine sets_nil rfl (fun _ _ _ h => h) _ rfl _ rfl ?_; simp only [Act.put, List.setIfInBounds_toArray, List.set_cons_succ, List.set_cons_zero]) | (refine sets_skip rfl (fun _ _ _ h => h) ?_; simp only [Act.put, List.setIfInBounds_toArray, List.set_cons_succ, List.set_cons_zero])))
        rintro S _ _ ⟨q2, rfl⟩
        go_wp2
        go_roundw
        case rel => exact ⟨k + 1, q2, by omega, by go_num, rfl, HQ⟩
        case measure => simp [intOf]; omega
    · obtain rfl : k = 32 := by omega
      have HX := Lib.hid (bits_all hw ht hm HP.out)
      clear HP
      obtain ⟨x, hx⟩ : ∃ x, w / 4096 % 8 = x := ⟨_, rfl⟩
      obtain ⟨t, ht'⟩ : ∃ t, w / 1048576 = t := ⟨_, rfl⟩
      have e3 : (w : Int) / 4096 % 8 = ((x : Nat) : Int) := by omega
      have e4 : (w : Int) / 1048576 = ((t : Nat) : Int) := by omega
      have HF : Hid (fitsB r w = (if modB r.lay then x != 5 && x != 6 else if csrB r.lay then decide (1 ≤ t) && decide (t ≤ 3) else true)) := Lib.hid (by unfold fitsB; rw [HX.out, hx, ht']; simp)
      have z5 : ((x : Int) == 5) = !(x != 5) := by rw [Bool.eq_iff_iff]; simp; omega
      have z6 : ((x : Int) == 6) = !(x != 6) := by rw [Bool.eq_iff_iff]; simp; omega
      have z8 : ((r.lay : Int) != 8) = !(r.lay == 8) := by rw [Bool.eq_iff_iff]; simp; omega
      have z9 : ((r.lay : Int) != 9) = !(r.lay == 9) := by rw [Bool.eq_iff_iff]; simp; omega
      clear hx ht'
      cases hmd : modB r.lay
      · cases h8 : (r.lay == 8) <;> cases h9 : (r.lay == 9) <;> rw [h8] at z8 <;> rw [h9] at z9 <;>
        · rw [hmd] at C1
          simp only [Bool.not_true, Bool.not_false] at z8 z9
          go_wp2_with (first
            | (go_at_call 38; (with_reducible refine (C1.out _).mono ?_); rintro e w' ⟨rfl, rfl⟩))
          all_goals
            go_ret
            refine ⟨ret1 (vbool ?_), below_drewN KB.out⟩
            rw [HF.out, hmd]
            unfold csrB
            rw [h8, h9]
            first
            | rfl
            | (rename_i hh; have h1t : decide (1 ≤ t) = true := decide_eq_true (by omega); show decide ((t : Int) ≤ 3) = (decide (1 ≤ t) && decide (t ≤ 3)); rw [h1t, Bool.true_and]; exact decide_eq_decide.2 (by omega))
            | (rename_i hh; have h1t : decide (1 ≤ t) = false := decide_eq_false (by omega); show false = (decide (1 ≤ t) && decide (t ≤ 3)); rw [h1t]; rfl)
      · rw [hmd] at C1
        cases h5 : (x != 5) <;> cases h6 : (x != 6) <;> rw [h5] at z5 <;> rw [h6] at z6 <;>
        · simp only [Bool.not_true, Bool.not_false] at z5 z6
          have zz : ((r.lay : Int) == 8) = false := by
            rw [beq_eq_false_iff_ne]; unfold modB at hmd; simp at hmd; omega
          have hn8 : ((r.lay : Int) != 8) = true := by rw [bne_iff_ne]; unfold modB at hmd; simp at hmd; omega
          have hn9 : ((r.lay : Int) != 9) = true := by rw [bne_iff_ne]; unfold modB at hmd; simp at hmd; omega
          clear z8 z9
          go_wp2_with (first
            | (go_at_call 38; (with_reducible refine (C1.out _).mono ?_); rintro e w' ⟨rfl, rfl⟩))
          go_ret
          exact ⟨ret1 (vbool (by rw [HF.out, hmd, h5, h6]; rfl)), below_drewN KB.out⟩
end Go.Proofs.Yteelconabmfnkaa
