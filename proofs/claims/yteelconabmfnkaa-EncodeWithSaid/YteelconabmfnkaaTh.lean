/- All rows; which row a word is of. -/
import Derived.Test.YteelconabmfnkaaTe
import Derived.Test.YteelconabmfnkaaTf
namespace Go.Proofs.Yteelconabmfnkaa
open Go Go.RowKit
set_option maxRecDepth 100000
set_option linter.unusedVariables false
/-- the rows of a line -/
def RL (s : Sp) : List R7 :=
  if csrB s.lay then [ONE s 0 0]
  else if s.op = 21 ∨ s.op = 22 then (List.range 16).map fun k => ONE s (k / 4) (k % 4)
  else if s.op = 17 then (List.range 12).map fun k => ONE s (k / 3) (if k % 3 < k / 3 then k % 3 else k % 3 + 1)
  else if s.lay = 7 ∧ s.op ≠ 24 then (List.range 3).map fun k => ONE s k 0
  else (List.range 4).map fun k => ONE s k 0
def ROWS : List R7 := SPECS.flatMap RL
theorem rows_136 : ROWS.length = 136 := by decide +kernel
/-- the row of a word -/
def FIND (w : Nat) : Option R7 := ROWS.find? fun r => fitsB r w
theorem mask_opc : ∀ s ∈ SPECS, ∀ r ∈ RL s, r.mask &&& 127 = 127 ∧ r.mtch &&& 127 = s.code ∧ r.mask < 4294967296 ∧ r.mtch < 4294967296 := by
  have h : (SPECS.all fun s => (RL s).all fun r => r.mask &&& 127 == 127 && r.mtch &&& 127 == s.code && decide (r.mask < 4294967296) && decide (r.mtch < 4294967296)) = true := by decide +kernel
  intro s hs r hr
  have := List.all_eq_true.1 (List.all_eq_true.1 h s hs) r hr
  simp only [Bool.and_eq_true, beq_iff_eq, decide_eq_true_eq] at this
  exact ⟨this.1.1.1, this.1.1.2, this.1.2, this.2⟩
/-- a row of another opcode is not the word's -/
theorem fits_opc {s : Sp} (hs : s ∈ SPECS) {r : R7} (hr : r ∈ RL s) {w : Nat} (h : fitsB r w = true) : w &&& 127 = s.code := by
  obtain ⟨h1, h2, _, _⟩ := mask_opc s hs r hr
  unfold fitsB at h
  simp only [Bool.and_eq_true, beq_iff_eq] at h
  have h0 := h.1
  rw [← h2]
  apply Nat.eq_of_testBit_eq
  intro i
  have e := congrArg (·.testBit i) h0
  have e1 := congrArg (·.testBit i) h1
  simp only [Nat.testBit_and, Nat.testBit_xor, Nat.zero_testBit] at e e1 ⊢
  cases hw : w.testBit i <;> cases hm : r.mtch.testBit i <;> cases hk : r.mask.testBit i <;> cases h7 : Nat.testBit 127 i <;> simp_all
end Go.Proofs.Yteelconabmfnkaa
