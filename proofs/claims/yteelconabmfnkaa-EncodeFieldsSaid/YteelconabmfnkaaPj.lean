/- Plain: a turned field changes that field's bits alone. -/
import Derived.Test.YteelconabmfnkaaPga
import Derived.Test.YteelconabmfnkaaEc
namespace Go.Proofs.Yteelconabmfnkaa
open Go Go.RowKit
set_option maxRecDepth 100000
set_option maxHeartbeats 1000000
set_option linter.unusedVariables false
theorem same_rows : ∀ r ∈ ROWS, (samO (some r) (some r)).2 = 0 ∧ (samO (some r) (some r)).1 < 4294967296 ∧ (4294967295 - (samO (some r) (some r)).1) &&& 1015808 = 0 := by
  have h : (ROWS.all fun r => decide ((samO (some r) (some r)).2 = 0) && decide ((samO (some r) (some r)).1 < 4294967296) && decide ((4294967295 - (samO (some r) (some r)).1) &&& 1015808 = 0)) = true := by decide +kernel
  intro r hr
  have := List.all_eq_true.1 h r hr
  simp only [Bool.and_eq_true, decide_eq_true_eq] at this
  exact ⟨this.1.1, this.1.2, this.2⟩
theorem fw_turn (l : Nat) (hl : 1 ≤ l ∧ l ≤ 9) (x : I11) (s : Nat) : FW l x + 32768 * s = FW l { x with rs1 := s } + 32768 * x.rs1 := by
  rcases (by omega : l = 1 ∨ l = 2 ∨ l = 3 ∨ l = 4 ∨ l = 5 ∨ l = 6 ∨ l = 7 ∨ l = 8 ∨ l = 9) with rfl | rfl | rfl | rfl | rfl | rfl | rfl | rfl | rfl
  all_goals
    simp only [FW]
    omega
theorem mays_turn {l : Nat} {x : I11} (M : Mays l x) {s : Nat} (hs : s < 32) : Mays l { x with rs1 := s } := by
  obtain ⟨h1, h2, h3, h4, h5, h6, h7, h8, h9, h10, z1, z2, z3, z4, z5, z6, z7⟩ := M
  exact ⟨h1, hs, h3, h4, h5, h6, h7, h8, h9, h10, z1, z2, z3, z4, z5, z6, z7⟩
theorem and_sub {q a b k : Nat} (h : q &&& a = 0) (hk : ∀ i, k.testBit i = true → a.testBit i = true) : q &&& k = 0 := by
  apply Nat.eq_of_testBit_eq
  intro i
  have e := congrArg (·.testBit i) h
  have e2 := hk i
  simp only [Nat.testBit_and, Nat.zero_testBit] at e ⊢
  generalize q.testBit i = p1 at e ⊢
  generalize a.testBit i = p2 at e e2 ⊢
  generalize k.testBit i = p3 at e2 ⊢
  revert p1 p2 p3; decide
theorem off_field {q k : Nat} (hq : q < 4294967296) (h : q &&& 4293951487 = 0) (hk : k &&& 1015808 = 0) : q &&& k = 0 := by
  have h32 : q &&& 4294967295 = q := by
    have := Nat.and_two_pow_sub_one_eq_mod q 32
    rw [show (2 : Nat) ^ 32 - 1 = 4294967295 from rfl] at this
    rw [this]; exact Nat.mod_eq_of_lt hq
  have hr : q &&& 1015808 = q := by
    have : q &&& (4293951487 ||| 1015808) = q := h32
    rw [Nat.and_or_distrib_left, h] at this
    simpa using this
  rw [← hr, Nat.and_assoc, Nat.and_comm 1015808, hk]; simp
/-- what a turned field changes -/
theorem turn_field {x : I11} (h : MAY x = true) {s : Nat} (hs : s < 32) : MAY { x with rs1 := s } = true ∧ ∃ m : Nat, samV (WORD x) (WORD { x with rs1 := s }) = (m, 0) ∧ m < 4294967296 ∧ WORD { x with rs1 := s } < 4294967296 ∧ WORD x < 4294967296 ∧
    (WORD x ^^^ WORD { x with rs1 := s }) &&& (4294967295 - m) = 0 ∧ (WORD x ^^^ WORD { x with rs1 := s }) &&& (4294967295 - 1015808) = 0 := by
  obtain ⟨r, hr, ho, o1, o2, o3, o4, M, hw⟩ := may_row h
  have M' := mays_turn M hs
  obtain ⟨hz, hwz⟩ := word_of (x := { x with rs1 := s }) hr o1 o2 o3 o4 M'
  obtain ⟨a1, a2, _⟩ := word_dec hr M o1 o2 o3 o4
  obtain ⟨b1, b2, _⟩ := word_dec (x := { x with rs1 := s }) hr M' o1 o2 o3 o4
  rw [← hw] at a1 a2
  rw [← hwz] at b1 b2
  obtain ⟨s1, s2, s3⟩ := same_rows r hr
  have F := row_fine r hr
  have hq32 : WORD x ^^^ WORD { x with rs1 := s } < 4294967296 := Nat.xor_lt_two_pow (n := 32) a1 b1
  have hq : WORD x ^^^ WORD { x with rs1 := s } = FW r.lay x ^^^ FW r.lay { x with rs1 := s } := by
    rw [hw, hwz, ← word_sum hr M, ← word_sum hr M', Nat.xor_comm r.mtch (FW r.lay x), Nat.xor_assoc, ← Nat.xor_assoc r.mtch r.mtch, Nat.xor_self, Nat.zero_xor]
  have hmain : (WORD x ^^^ WORD { x with rs1 := s }) &&& 4293951487 = 0 := by
    rw [hq]
    obtain ⟨b, c, e, f, g, P, _⟩ := fw_parts ⟨F.lay1, F.lay2⟩ M
    have ht := fw_turn r.lay ⟨F.lay1, F.lay2⟩ x s
    have Q : Parts (FW r.lay { x with rs1 := s }) 0 b c s e f g := parts_of (by decide) P.hb P.hc hs P.he P.hf P.hg (by have := P.sum; omega)
    have e0 := unfld (w := FW r.lay x) (m := FW r.lay { x with rs1 := s }) 0 7 (by simpa using P.p0.trans Q.p0.symm)
    have e1 := unfld 7 5 (P.p1.trans Q.p1.symm)
    have e2 := unfld 12 3 (P.p2.trans Q.p2.symm)
    have e4 := unfld 20 5 (P.p4.trans Q.p4.symm)
    have e5 := unfld 25 2 (P.p5.trans Q.p5.symm)
    have e6 := unfld 27 5 (P.p6.trans Q.p6.symm)
    exact and_or0 (and_or0 (and_or0 (and_or0 (and_or0 e0 e1) e2) e4) e5) e6
  refine ⟨hz, (samO (some r) (some r)).1, ?_, s2, b1, a1, off_field hq32 hmain s3, hmain⟩
  unfold samV
  rw [find_of hr a2, find_of hr b2]
  exact Prod.ext rfl s1
end Go.Proofs.Yteelconabmfnkaa
