/- Moded, Fits. -/
import Derived.Test.YteelconabmfnkaaTc
namespace Go.Proofs.Yteelconabmfnkaa
open Go Go.RowKit
set_option maxHeartbeats 4000000
set_option maxRecDepth 100000
set_option linter.unusedVariables false
set_option linter.unusedSimpArgs false
def modB (l : Nat) : Bool := l == 3 || l == 4 || l == 6
def csrB (l : Nat) : Bool := l == 8 || l == 9
/-- is a word of a row? -/
def fitsB (r : R7) (w : Nat) : Bool :=
  ((w ^^^ r.mtch) &&& r.mask) == 0 && (if modB r.lay then w / 4096 % 8 != 5 && w / 4096 % 8 != 6 else if csrB r.lay then decide (1 ≤ w / 1048576) && decide (w / 1048576 ≤ 3) else true)
theorem moded_c (w : World) (l : Nat) : Calls Try.prog 37 #[.int .u8 l] w fun e w' => e = .returned (.bool (modB l)) ∧ w' = w := by
  have e3 : ((l : Int) == 3) = (l == 3) := by rw [Bool.eq_iff_iff]; simp; omega
  have e4 : ((l : Int) == 4) = (l == 4) := by rw [Bool.eq_iff_iff]; simp; omega
  have e6 : ((l : Int) == 6) = (l == 6) := by rw [Bool.eq_iff_iff]; simp; omega
  go_enter Try.func37, Try.ntmps37
  cases h3 : (l == 3) <;> cases h4 : (l == 4) <;> cases h6 : (l == 6) <;> rw [h3] at e3 <;> rw [h4] at e4 <;> rw [h6] at e6 <;>
  · go_wp2
    go_ret
    exact ⟨ret1 (vbool (by unfold modB; rw [h3, h4, h6]; rfl)), rfl⟩
theorem and32 (a b : Nat) (ha : a < 4294967296) (hb : b < 4294967296) : bits .and .u32 (a : Int) (b : Int) = ((a &&& b : Nat) : Int) := u32_and_nat a b ha hb
theorem xor32 (a b : Nat) (ha : a < 4294967296) (hb : b < 4294967296) : bits .xor .u32 (a : Int) (b : Int) = ((a ^^^ b : Nat) : Int) := u32_xor_nat a b ha hb
theorem fits_c (W : World) (r : R7) (w : Nat) (hm : r.mask < 4294967296) (ht : r.mtch < 4294967296) (hw : w < 4294967296) :
    Calls Try.prog 35 #[.agg (rowV r), .int .u32 w] W fun e w' => e = .returned (.bool (fitsB r w)) ∧ Below W.heap.size W w' := by
  obtain ⟨x, hx⟩ : ∃ x, w ^^^ r.mtch = x := ⟨_, rfl⟩
  have hx32 : x < 4294967296 := by rw [← hx]; exact Nat.xor_lt_two_pow (n := 32) hw ht
  have e1 : bits .xor .u32 (w : Int) (r.mtch : Int) = ((x : Nat) : Int) := by rw [← hx]; exact xor32 w r.mtch hw ht
  obtain ⟨y, hy⟩ : ∃ y, x &&& r.mask = y := ⟨_, rfl⟩
  have e2 : bits .and .u32 (x : Int) (r.mask : Int) = ((y : Nat) : Int) := by rw [← hy]; exact and32 x r.mask hx32 hm
  obtain ⟨q, hq⟩ : ∃ q, w / 4096 % 8 = q := ⟨_, rfl⟩
  have e3 : bits .and .u32 ((w : Int) / 4096) 7 = ((q : Nat) : Int) := by
    have h1 : (w : Int) / 4096 = ((w / 4096 : Nat) : Int) := by omega
    rw [h1, show (7 : Int) = ((7 : Nat) : Int) from rfl, and32 _ 7 (by omega) (by decide), ← hq]
    congr 1
    exact Nat.and_two_pow_sub_one_eq_mod (w / 4096) 3
  obtain ⟨t, ht'⟩ : ∃ t, w / 1048576 = t := ⟨_, rfl⟩
  have e4 : (w : Int) / 1048576 = ((t : Nat) : Int) := by omega
  have HF : Hid (fitsB r w = (y == 0 && (if modB r.lay then q != 5 && q != 6 else if csrB r.lay then decide (1 ≤ t) && decide (t ≤ 3) else true))) := Lib.hid (by unfold fitsB; rw [hx, hy, hq, ht'])
  have C1 := Lib.hid (fun W => moded_c W r.lay)
  clear hx hy hq ht'
  have z0 : ((y : Int) != 0) = (y != 0) := by rw [Bool.eq_iff_iff]; simp
  have z5 : ((q : Int) != 5) = (q != 5) := by rw [Bool.eq_iff_iff]; simp; omega
  have z6 : ((q : Int) != 6) = (q != 6) := by rw [Bool.eq_iff_iff]; simp; omega
  have z8 : ((r.lay : Int) == 8) = (r.lay == 8) := by rw [Bool.eq_iff_iff]; simp; omega
  have z9 : ((r.lay : Int) == 9) = (r.lay == 9) := by rw [Bool.eq_iff_iff]; simp; omega
  have hB : Below W.heap.size W (W.alloc (.cells (rowV r) 40)) := (Below.refl _ W).alloc (Nat.le_refl _) _
  have HB := Lib.hid hB
  clear hB
  go_enter Try.func35, Try.ntmps35
  cases hy0 : (y != 0)
  · rw [hy0] at z0
    have HY0 : Hid ((y == 0) = true) := Lib.hid (by simpa using hy0)
    cases hmd : modB r.lay
    · cases h8 : (r.lay == 8) <;> cases h9 : (r.lay == 9) <;> rw [h8] at z8 <;> rw [h9] at z9 <;>
      · rw [hmd] at C1
        go_wp2_with (first
          | (go_at_call 37; (with_reducible refine (C1.out _).mono ?_); rintro e w' ⟨rfl, rfl⟩))
        all_goals
          go_ret
          refine ⟨ret1 (vbool ?_), HB.out⟩
          rw [HF.out, HY0.out, hmd]
          unfold csrB
          rw [h8, h9]
          first
          | rfl
          | (rename_i hh; have h1t : decide (1 ≤ t) = true := decide_eq_true (by omega); show decide ((t : Int) ≤ 3) = (decide (1 ≤ t) && decide (t ≤ 3)); rw [h1t, Bool.true_and]; exact decide_eq_decide.2 (by omega))
          | (rename_i hh; have h1t : decide (1 ≤ t) = false := decide_eq_false (by omega); show false = (decide (1 ≤ t) && decide (t ≤ 3)); rw [h1t]; rfl)
    · rw [hmd] at C1
      cases h5 : (q != 5) <;> cases h6 : (q != 6) <;> rw [h5] at z5 <;> rw [h6] at z6 <;>
      · go_wp2_with (first
          | (go_at_call 37; (with_reducible refine (C1.out _).mono ?_); rintro e w' ⟨rfl, rfl⟩))
        go_ret
        exact ⟨ret1 (vbool (by rw [HF.out, HY0.out, hmd, h5, h6]; rfl)), HB.out⟩
  · rw [hy0] at z0
    have HY0 : Hid ((y == 0) = false) := Lib.hid (by simpa using hy0)
    go_wp2
    go_ret
    exact ⟨ret1 (vbool (by rw [HF.out, HY0.out]; rfl)), HB.out⟩
end Go.Proofs.Yteelconabmfnkaa
