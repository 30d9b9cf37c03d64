/- Plain: an instruction that may be is the word's that is made of it. -/
import Derived.Test.YtaddmgclnbkdgaaEi
namespace Go.Proofs.Ytaddmgclnbkdgaa
open Go Go.RowKit
set_option maxRecDepth 100000
set_option linter.unusedVariables false
/-- two rows have a bit that both ask and answer differently -/
theorem rows_apart : ∀ r ∈ ROWS, ∀ q ∈ ROWS, ((r.mtch ^^^ q.mtch) &&& r.mask) &&& q.mask = 0 → r = q := by
  have h : (ROWS.all fun r => ROWS.all fun q => !((((r.mtch ^^^ q.mtch) &&& r.mask) &&& q.mask) == 0) || decide (r = q)) = true := by decide +kernel
  intro r hr q hq h1
  have := List.all_eq_true.1 (List.all_eq_true.1 h r hr) q hq
  simpa [h1] using this
theorem both_zero {w a b k l : Nat} (h1 : (w ^^^ a) &&& k = 0) (h2 : (w ^^^ b) &&& l = 0) : ((a ^^^ b) &&& k) &&& l = 0 := by
  apply Nat.eq_of_testBit_eq
  intro i
  have e1 := congrArg (·.testBit i) h1
  have e2 := congrArg (·.testBit i) h2
  simp only [Nat.testBit_and, Nat.testBit_xor, Nat.zero_testBit] at e1 e2 ⊢
  generalize w.testBit i = p1 at e1 e2 ⊢
  generalize a.testBit i = p2 at e1 e2 ⊢
  generalize b.testBit i = p3 at e1 e2 ⊢
  generalize k.testBit i = p4 at e1 e2 ⊢
  generalize l.testBit i = p5 at e1 e2 ⊢
  revert p1 p2 p3 p4 p5; decide
theorem fits_one {r q : R7} {w : Nat} (hr : r ∈ ROWS) (hq : q ∈ ROWS) (h1 : fitsB r w = true) (h2 : fitsB q w = true) : r = q :=
  rows_apart r hr q hq (both_zero (fits_and h1) (fits_and h2))
theorem find_of {r : R7} {w : Nat} (hr : r ∈ ROWS) (h : fitsB r w = true) : FIND w = some r := by
  unfold FIND
  cases hf : ROWS.find? fun q => fitsB q w with
  | none =>
    have := List.find?_eq_none.1 hf r hr
    rw [h] at this; simp at this
  | some q => rw [fits_one hr (List.mem_of_find?_eq_some hf) h (by simpa using List.find?_some hf)]
theorem xor_sum {a b k : Nat} (h1 : a &&& k = a) (h2 : b &&& k = 0) : a ^^^ b = a + b := by
  have hab : a &&& b = 0 := by
    apply Nat.eq_of_testBit_eq
    intro i
    have e1 := congrArg (·.testBit i) h1
    have e2 := congrArg (·.testBit i) h2
    simp only [Nat.testBit_and, Nat.zero_testBit] at e1 e2 ⊢
    generalize a.testBit i = p1 at e1 e2 ⊢
    generalize b.testBit i = p2 at e1 e2 ⊢
    generalize k.testBit i = p3 at e1 e2 ⊢
    revert p1 p2 p3; decide
  have hx : a ^^^ b = a ||| b := by
    apply Nat.eq_of_testBit_eq
    intro i
    have e := congrArg (·.testBit i) hab
    simp only [Nat.testBit_and, Nat.testBit_xor, Nat.testBit_or, Nat.zero_testBit] at e ⊢
    generalize a.testBit i = p1 at e ⊢
    generalize b.testBit i = p2 at e ⊢
    revert p1 p2; decide
  obtain ⟨m, hm⟩ : ∃ m, a + b < 2 ^ m := ⟨a + b, Nat.lt_two_pow_self⟩
  have ha : a < 2 ^ m := by omega
  have hb : b < 2 ^ m := by omega
  have hz : BitVec.ofNat m a &&& BitVec.ofNat m b = 0#m := by
    apply BitVec.eq_of_toNat_eq
    rw [BitVec.toNat_and, BitVec.toNat_ofNat, BitVec.toNat_ofNat, Nat.mod_eq_of_lt ha, Nat.mod_eq_of_lt hb, hab]
    simp
  have := BitVec.add_eq_or_of_and_eq_zero _ _ hz
  have t := congrArg BitVec.toNat this
  rw [BitVec.toNat_or, BitVec.toNat_ofNat, BitVec.toNat_ofNat, Nat.mod_eq_of_lt ha, Nat.mod_eq_of_lt hb, BitVec.toNat_add, BitVec.toNat_ofNat, BitVec.toNat_ofNat, Nat.mod_eq_of_lt ha, Nat.mod_eq_of_lt hb, Nat.mod_eq_of_lt hm] at t
  rw [hx, ← t]
theorem and_or0 {x a b : Nat} (h1 : x &&& a = 0) (h2 : x &&& b = 0) : x &&& (a ||| b) = 0 := by rw [Nat.and_or_distrib_left, h1, h2]; rfl
/-- a word and a row's match are alike in the mask -/
theorem mask_eq {w m a b c d e f g a' b' c' d' e' f' g' : Nat} (P : Parts w a b c d e f g) (Q : Parts m a' b' c' d' e' f' g') (l : Nat) (hl : 1 ≤ l ∧ l ≤ 9) (h0 : a = a') (h2 : (l < 3 ∨ l = 5 ∨ 7 ≤ l) → c = c') (h4 : (l = 6 ∨ l = 7) → e = e') (h5 : (3 ≤ l ∧ l < 8) → f = f') (h6 : (4 ≤ l ∧ l < 8) → g = g') :
    (w ^^^ m) &&& MK l = 0 := by
  have e0 : (w ^^^ m) &&& ((2 ^ 7 - 1) <<< 0) = 0 := unfld 0 7 (by simpa using P.p0.trans (h0.trans Q.p0.symm))
  have e2 : (l < 3 ∨ l = 5 ∨ 7 ≤ l) → (w ^^^ m) &&& ((2 ^ 3 - 1) <<< 12) = 0 := fun h => unfld 12 3 (P.p2.trans ((h2 h).trans Q.p2.symm))
  have e4 : (l = 6 ∨ l = 7) → (w ^^^ m) &&& ((2 ^ 5 - 1) <<< 20) = 0 := fun h => unfld 20 5 (P.p4.trans ((h4 h).trans Q.p4.symm))
  have e5 : (3 ≤ l ∧ l < 8) → (w ^^^ m) &&& ((2 ^ 2 - 1) <<< 25) = 0 := fun h => unfld 25 2 (P.p5.trans ((h5 h).trans Q.p5.symm))
  have e6 : (4 ≤ l ∧ l < 8) → (w ^^^ m) &&& ((2 ^ 5 - 1) <<< 27) = 0 := fun h => unfld 27 5 (P.p6.trans ((h6 h).trans Q.p6.symm))
  clear P Q
  rcases (by omega : l = 1 ∨ l = 2 ∨ l = 3 ∨ l = 4 ∨ l = 5 ∨ l = 6 ∨ l = 7 ∨ l = 8 ∨ l = 9) with rfl | rfl | rfl | rfl | rfl | rfl | rfl | rfl | rfl
  · exact and_or0 e0 (e2 (by omega))
  · exact and_or0 e0 (e2 (by omega))
  · exact and_or0 e0 (e5 (by omega))
  · exact and_or0 (and_or0 e0 (e5 (by omega))) (e6 (by omega))
  · exact and_or0 (and_or0 (and_or0 e0 (e2 (by omega))) (e5 (by omega))) (e6 (by omega))
  · exact and_or0 (and_or0 (and_or0 e0 (e4 (by omega))) (e5 (by omega))) (e6 (by omega))
  · exact and_or0 (and_or0 (and_or0 (and_or0 e0 (e2 (by omega))) (e4 (by omega))) (e5 (by omega))) (e6 (by omega))
  · exact and_or0 e0 (e2 (by omega))
  · exact and_or0 e0 (e2 (by omega))
/-- the fields of an instruction, set apart -/
theorem fw_parts {l : Nat} {x : I11} (hl : 1 ≤ l ∧ l ≤ 9) (M : Mays l x) : ∃ b c e f g, Parts (FW l x) 0 b c x.rs1 e f g ∧ ((l < 3 ∨ l = 5 ∨ 7 ≤ l) → c = 0) ∧ ((l = 6 ∨ l = 7) → e = 0) ∧ ((3 ≤ l ∧ l < 8) → f = 0) ∧ ((4 ≤ l ∧ l < 8) → g = 0) := by
  obtain ⟨h1, h2, h3, h4, h5, h6, h7, h8, h9, h10, z1, z2, z3, z4, z5, z6, z7⟩ := M
  obtain ⟨i, hi⟩ : ∃ i, (x.imm % 4096).toNat = i := ⟨_, rfl⟩
  have hi2 : i < 4096 := by omega
  rcases (by omega : l = 1 ∨ l = 2 ∨ l = 3 ∨ l = 4 ∨ l = 5 ∨ l = 6 ∨ l = 7 ∨ l = 8 ∨ l = 9) with rfl | rfl | rfl | rfl | rfl | rfl | rfl | rfl | rfl
  · exact ⟨x.rd, 0, i % 32, i / 32 % 4, i / 128, parts_of (by omega) (by omega) (by omega) (by omega) (by omega) (by omega) (by omega) (by simp only [FW]; rw [hi]; clear z1 z2 z3 z4 z5 z6 z7; omega), by omega, by omega, by omega, by omega⟩
  · exact ⟨i % 32, 0, x.rs2, i / 32 % 4, i / 128, parts_of (by omega) (by omega) (by omega) (by omega) (by omega) (by omega) (by omega) (by simp only [FW]; rw [hi]; clear z1 z2 z3 z4 z5 z6 z7; omega), by omega, by omega, by omega, by omega⟩
  · exact ⟨x.rd, x.rm, x.rs2, 0, x.rs3, parts_of (by omega) (by omega) (by omega) (by omega) (by omega) (by omega) (by omega) (by simp only [FW]; omega), by omega, by omega, by omega, by omega⟩
  · exact ⟨x.rd, x.rm, x.rs2, 0, 0, parts_of (by omega) (by omega) (by omega) (by omega) (by omega) (by omega) (by omega) (by simp only [FW]; omega), by omega, by omega, by omega, by omega⟩
  · exact ⟨x.rd, 0, x.rs2, 0, 0, parts_of (by omega) (by omega) (by omega) (by omega) (by omega) (by omega) (by omega) (by simp only [FW]; omega), by omega, by omega, by omega, by omega⟩
  · exact ⟨x.rd, x.rm, 0, 0, 0, parts_of (by omega) (by omega) (by omega) (by omega) (by omega) (by omega) (by omega) (by simp only [FW]; omega), by omega, by omega, by omega, by omega⟩
  · exact ⟨x.rd, 0, 0, 0, 0, parts_of (by omega) (by omega) (by omega) (by omega) (by omega) (by omega) (by omega) (by simp only [FW]; omega), by omega, by omega, by omega, by omega⟩
  · exact ⟨x.rd, 0, x.csr, 0, 0, parts_of (by omega) (by omega) (by omega) (by omega) (by omega) (by omega) (by omega) (by simp only [FW]; omega), by omega, by omega, by omega, by omega⟩
  · exact ⟨x.rd, 0, x.csr, 0, 0, parts_of (by omega) (by omega) (by omega) (by omega) (by omega) (by omega) (by omega) (by simp only [FW]; omega), by omega, by omega, by omega, by omega⟩
theorem parts_zero : Parts 0 0 0 0 0 0 0 0 := parts_of (by decide) (by decide) (by decide) (by decide) (by decide) (by decide) (by decide) rfl
theorem fw_mask {l : Nat} {x : I11} (hl : 1 ≤ l ∧ l ≤ 9) (M : Mays l x) : FW l x &&& MK l = 0 := by
  obtain ⟨b, c, e, f, g, P, h2, h4, h5, h6⟩ := fw_parts hl M
  have := mask_eq P parts_zero l hl rfl h2 h4 h5 h6
  rwa [Nat.xor_zero] at this
theorem word_sum {r : R7} {x : I11} (hr : r ∈ ROWS) (M : Mays r.lay x) : r.mtch ^^^ FW r.lay x = r.mtch + FW r.lay x := by
  have F := row_fine r hr
  exact xor_sum (by have := F.own; rwa [F.mask] at this) (fw_mask ⟨F.lay1, F.lay2⟩ M)
theorem word_fits0 {r : R7} {x : I11} (hr : r ∈ ROWS) (M : Mays r.lay x) : ((r.mtch + FW r.lay x) ^^^ r.mtch) &&& r.mask = 0 := by
  have F := row_fine r hr
  rw [← word_sum hr M, Nat.xor_comm r.mtch, Nat.xor_assoc, Nat.xor_self, Nat.xor_zero, F.mask]
  exact fw_mask ⟨F.lay1, F.lay2⟩ M
end Go.Proofs.Ytaddmgclnbkdgaa
