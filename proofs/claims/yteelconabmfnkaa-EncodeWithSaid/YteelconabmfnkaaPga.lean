/- Pga: several texts in one. -/
import Derived.Test.YteelconabmfnkaaEea
/- Plain: an instruction that may be is the word's that is made of it. -/
namespace Go.Proofs.Yteelconabmfnkaa
open Go Go.RowKit
set_option maxRecDepth 100000
set_option linter.unusedVariables false
/-- two rows have a bit that both ask and answer differently -/
theorem rows_apart : ∀ r ∈ ROWS, ∀ q ∈ ROWS, ((r.mtch ^^^ q.mtch) &&& r.mask) &&& q.mask = 0 → r = q := by
  have h : (ROWS.all fun r => ROWS.all fun q => !((((r.mtch ^^^ q.mtch) &&& r.mask) &&& q.mask) == 0) || decide (r = q)) = true := by decide +kernel
  intro r hr q hq h1
  have := List.all_eq_true.1 (List.all_eq_true.1 h r hr) q hq
  simpa [h1] using this
theorem both_zero {w a b k l : Nat} (h1 : (w ^^^ a) &&& k = 0) (h2 : (w ^^^ b) &&& l = 0) : ((a ^^^ b) &&& k) &&& l = 0 := by
  apply Nat.eq_of_testBit_eq
  intro i
  have e1 := congrArg (·.testBit i) h1
  have e2 := congrArg (·.testBit i) h2
  simp only [Nat.testBit_and, Nat.testBit_xor, Nat.zero_testBit] at e1 e2 ⊢
  generalize w.testBit i = p1 at e1 e2 ⊢
  generalize a.testBit i = p2 at e1 e2 ⊢
  generalize b.testBit i = p3 at e1 e2 ⊢
  generalize k.testBit i = p4 at e1 e2 ⊢
  generalize l.testBit i = p5 at e1 e2 ⊢
  revert p1 p2 p3 p4 p5; decide
theorem fits_one {r q : R7} {w : Nat} (hr : r ∈ ROWS) (hq : q ∈ ROWS) (h1 : fitsB r w = true) (h2 : fitsB q w = true) : r = q :=
  rows_apart r hr q hq (both_zero (fits_and h1) (fits_and h2))
theorem find_of {r : R7} {w : Nat} (hr : r ∈ ROWS) (h : fitsB r w = true) : FIND w = some r := by
  unfold FIND
  cases hf : ROWS.find? fun q => fitsB q w with
  | none =>
    have := List.find?_eq_none.1 hf r hr
    rw [h] at this; simp at this
  | some q => rw [fits_one hr (List.mem_of_find?_eq_some hf) h (by simpa using List.find?_some hf)]
theorem xor_sum {a b k : Nat} (h1 : a &&& k = a) (h2 : b &&& k = 0) : a ^^^ b = a + b := by
  have hab : a &&& b = 0 := by
    apply Nat.eq_of_testBit_eq
    intro i
    have e1 := congrArg (·.testBit i) h1
    have e2 := congrArg (·.testBit i) h2
    simp only [Nat.testBit_and, Nat.zero_testBit] at e1 e2 ⊢
    generalize a.testBit i = p1 at e1 e2 ⊢
    generalize b.testBit i = p2 at e1 e2 ⊢
    generalize k.testBit i = p3 at e1 e2 ⊢
    revert p1 p2 p3; decide
  have hx : a ^^^ b = a ||| b := by
    apply Nat.eq_of_testBit_eq
    intro i
    have e := congrArg (·.testBit i) hab
    simp only [Nat.testBit_and, Nat.testBit_xor, Nat.testBit_or, Nat.zero_testBit] at e ⊢
    generalize a.testBit i = p1 at e ⊢
    generalize b.testBit i = p2 at e ⊢
    revert p1 p2; decide
  obtain ⟨m, hm⟩ : ∃ m, a + b < 2 ^ m := ⟨a + b, Nat.lt_two_pow_self⟩
  have ha : a < 2 ^ m := by omega
  have hb : b < 2 ^ m := by omega
  have hz : BitVec.ofNat m a &&& BitVec.ofNat m b = BitVec.ofNat m 0 := by
    apply BitVec.eq_of_toNat_eq
    rw [BitVec.toNat_and, BitVec.toNat_ofNat, BitVec.toNat_ofNat, Nat.mod_eq_of_lt ha, Nat.mod_eq_of_lt hb, hab]
    simp
  have := BitVec.add_eq_or_of_and_eq_zero _ _ hz
  have t := congrArg BitVec.toNat this
  rw [BitVec.toNat_or, BitVec.toNat_ofNat, BitVec.toNat_ofNat, Nat.mod_eq_of_lt ha, Nat.mod_eq_of_lt hb, BitVec.toNat_add, BitVec.toNat_ofNat, BitVec.toNat_ofNat, Nat.mod_eq_of_lt ha, Nat.mod_eq_of_lt hb, Nat.mod_eq_of_lt hm] at t
  rw [hx, ← t]
theorem and_or0 {x a b : Nat} (h1 : x &&& a = 0) (h2 : x &&& b = 0) : x &&& (a ||| b) = 0 := by rw [Nat.and_or_distrib_left, h1, h2]; rfl
/-- a word and a row's match are alike in the mask -/
theorem mask_eq {w m a b c d e f g a' b' c' d' e' f' g' : Nat} (P : Parts w a b c d e f g) (Q : Parts m a' b' c' d' e' f' g') (l : Nat) (hl : 1 ≤ l ∧ l ≤ 9) (h0 : a = a') (h2 : (l < 3 ∨ l = 5 ∨ 7 ≤ l) → c = c') (h4 : (l = 6 ∨ l = 7) → e = e') (h5 : (3 ≤ l ∧ l < 8) → f = f') (h6 : (4 ≤ l ∧ l < 8) → g = g') :
    (w ^^^ m) &&& MK l = 0 := by
  have e0 : (w ^^^ m) &&& ((2 ^ 7 - 1) <<< 0) = 0 := unfld 0 7 (by simpa using P.p0.trans (h0.trans Q.p0.symm))
  have e2 : (l < 3 ∨ l = 5 ∨ 7 ≤ l) → (w ^^^ m) &&& ((2 ^ 3 - 1) <<< 12) = 0 := fun h => unfld 12 3 (P.p2.trans ((h2 h).trans Q.p2.symm))
  have e4 : (l = 6 ∨ l = 7) → (w ^^^ m) &&& ((2 ^ 5 - 1) <<< 20) = 0 := fun h => unfld 20 5 (P.p4.trans ((h4 h).trans Q.p4.symm))
  have e5 : (3 ≤ l ∧ l < 8) → (w ^^^ m) &&& ((2 ^ 2 - 1) <<< 25) = 0 := fun h => unfld 25 2 (P.p5.trans ((h5 h).trans Q.p5.symm))
  have e6 : (4 ≤ l ∧ l < 8) → (w ^^^ m) &&& ((2 ^ 5 - 1) <<< 27) = 0 := fun h => unfld 27 5 (P.p6.trans ((h6 h).trans Q.p6.symm))
  clear P Q
  rcases (by omega : l = 1 ∨ l = 2 ∨ l = 3 ∨ l = 4 ∨ l = 5 ∨ l = 6 ∨ l = 7 ∨ l = 8 ∨ l = 9) with rfl | rfl | rfl | rfl | rfl | rfl | rfl | rfl | rfl
  · exact and_or0 e0 (e2 (by omega))
  · exact and_or0 e0 (e2 (by omega))
  · exact and_or0 e0 (e5 (by omega))
  · exact and_or0 (and_or0 e0 (e5 (by omega))) (e6 (by omega))
  · exact and_or0 (and_or0 (and_or0 e0 (e2 (by omega))) (e5 (by omega))) (e6 (by omega))
  · exact and_or0 (and_or0 (and_or0 e0 (e4 (by omega))) (e5 (by omega))) (e6 (by omega))
  · exact and_or0 (and_or0 (and_or0 (and_or0 e0 (e2 (by omega))) (e4 (by omega))) (e5 (by omega))) (e6 (by omega))
  · exact and_or0 e0 (e2 (by omega))
  · exact and_or0 e0 (e2 (by omega))
/-- the fields of an instruction, set apart -/
theorem fw_parts {l : Nat} {x : I11} (hl : 1 ≤ l ∧ l ≤ 9) (M : Mays l x) : ∃ b c e f g, Parts (FW l x) 0 b c x.rs1 e f g ∧ ((l < 3 ∨ l = 5 ∨ 7 ≤ l) → c = 0) ∧ ((l = 6 ∨ l = 7) → e = 0) ∧ ((3 ≤ l ∧ l < 8) → f = 0) ∧ ((4 ≤ l ∧ l < 8) → g = 0) := by
  obtain ⟨h1, h2, h3, h4, h5, h6, h7, h8, h9, h10, z1, z2, z3, z4, z5, z6, z7⟩ := M
  obtain ⟨i, hi⟩ : ∃ i, (x.imm % 4096).toNat = i := ⟨_, rfl⟩
  have hi2 : i < 4096 := by omega
  rcases (by omega : l = 1 ∨ l = 2 ∨ l = 3 ∨ l = 4 ∨ l = 5 ∨ l = 6 ∨ l = 7 ∨ l = 8 ∨ l = 9) with rfl | rfl | rfl | rfl | rfl | rfl | rfl | rfl | rfl
  · exact ⟨x.rd, 0, i % 32, i / 32 % 4, i / 128, parts_of (by omega) (by omega) (by omega) (by omega) (by omega) (by omega) (by omega) (by simp only [FW]; rw [hi]; clear z1 z2 z3 z4 z5 z6 z7; omega), by omega, by omega, by omega, by omega⟩
  · exact ⟨i % 32, 0, x.rs2, i / 32 % 4, i / 128, parts_of (by omega) (by omega) (by omega) (by omega) (by omega) (by omega) (by omega) (by simp only [FW]; rw [hi]; clear z1 z2 z3 z4 z5 z6 z7; omega), by omega, by omega, by omega, by omega⟩
  · exact ⟨x.rd, x.rm, x.rs2, 0, x.rs3, parts_of (by omega) (by omega) (by omega) (by omega) (by omega) (by omega) (by omega) (by simp only [FW]; omega), by omega, by omega, by omega, by omega⟩
  · exact ⟨x.rd, x.rm, x.rs2, 0, 0, parts_of (by omega) (by omega) (by omega) (by omega) (by omega) (by omega) (by omega) (by simp only [FW]; omega), by omega, by omega, by omega, by omega⟩
  · exact ⟨x.rd, 0, x.rs2, 0, 0, parts_of (by omega) (by omega) (by omega) (by omega) (by omega) (by omega) (by omega) (by simp only [FW]; omega), by omega, by omega, by omega, by omega⟩
  · exact ⟨x.rd, x.rm, 0, 0, 0, parts_of (by omega) (by omega) (by omega) (by omega) (by omega) (by omega) (by omega) (by simp only [FW]; omega), by omega, by omega, by omega, by omega⟩
  · exact ⟨x.rd, 0, 0, 0, 0, parts_of (by omega) (by omega) (by omega) (by omega) (by omega) (by omega) (by omega) (by simp only [FW]; omega), by omega, by omega, by omega, by omega⟩
  · exact ⟨x.rd, 0, x.csr, 0, 0, parts_of (by omega) (by omega) (by omega) (by omega) (by omega) (by omega) (by omega) (by simp only [FW]; omega), by omega, by omega, by omega, by omega⟩
  · exact ⟨x.rd, 0, x.csr, 0, 0, parts_of (by omega) (by omega) (by omega) (by omega) (by omega) (by omega) (by omega) (by simp only [FW]; omega), by omega, by omega, by omega, by omega⟩
theorem parts_zero : Parts 0 0 0 0 0 0 0 0 := parts_of (by decide) (by decide) (by decide) (by decide) (by decide) (by decide) (by decide) rfl
theorem fw_mask {l : Nat} {x : I11} (hl : 1 ≤ l ∧ l ≤ 9) (M : Mays l x) : FW l x &&& MK l = 0 := by
  obtain ⟨b, c, e, f, g, P, h2, h4, h5, h6⟩ := fw_parts hl M
  have := mask_eq P parts_zero l hl rfl h2 h4 h5 h6
  rwa [Nat.xor_zero] at this
theorem word_sum {r : R7} {x : I11} (hr : r ∈ ROWS) (M : Mays r.lay x) : r.mtch ^^^ FW r.lay x = r.mtch + FW r.lay x := by
  have F := row_fine r hr
  exact xor_sum (by have := F.own; rwa [F.mask] at this) (fw_mask ⟨F.lay1, F.lay2⟩ M)
theorem word_fits0 {r : R7} {x : I11} (hr : r ∈ ROWS) (M : Mays r.lay x) : ((r.mtch + FW r.lay x) ^^^ r.mtch) &&& r.mask = 0 := by
  have F := row_fine r hr
  rw [← word_sum hr M, Nat.xor_comm r.mtch, Nat.xor_assoc, Nat.xor_self, Nat.xor_zero, F.mask]
  exact fw_mask ⟨F.lay1, F.lay2⟩ M
end Go.Proofs.Yteelconabmfnkaa

/- Plain: Decode of Encode is the instruction. -/
namespace Go.Proofs.Yteelconabmfnkaa
open Go Go.RowKit
set_option maxRecDepth 100000
set_option maxHeartbeats 1000000
set_option linter.unusedVariables false
theorem s12_of {imm : Int} {i : Nat} (h1 : -2048 ≤ imm) (h2 : imm < 2048) (h : (imm % 4096).toNat = i) : s12 i = imm := by
  unfold s12
  split <;> omega
theorem fits_of {r : R7} {w : Nat} (h : (w ^^^ r.mtch) &&& r.mask = 0) (h1 : modB r.lay = true → w / 4096 % 8 ≠ 5 ∧ w / 4096 % 8 ≠ 6) (h2 : csrB r.lay = true → 1 ≤ w / 1048576 ∧ w / 1048576 ≤ 3) : fitsB r w = true := by
  unfold fitsB
  rw [h]
  cases hm : modB r.lay with
  | true => obtain ⟨a, b⟩ := h1 hm; simp [a, b]
  | false =>
    cases hc : csrB r.lay with
    | true => obtain ⟨a, b⟩ := h2 hc; simp [a, b]
    | false => simp
theorem word_dec {r : R7} {x : I11} (hr : r ∈ ROWS) (M : Mays r.lay x) (o1 : x.op = r.op) (o2 : x.form = r.form) (o3 : x.frm = r.frm) (o4 : x.kind = r.kind) : r.mtch + FW r.lay x < 4294967296 ∧ fitsB r (r.mtch + FW r.lay x) = true ∧ ofRow (r.mtch + FW r.lay x) r = x := by
  have h0 := word_fits0 hr M
  obtain ⟨w, hw⟩ : ∃ w, r.mtch + FW r.lay x = w := ⟨_, rfl⟩
  rw [hw] at h0 ⊢
  have fo := fun h1 h2 => fits_of (r := r) (w := w) h0 h1 h2
  clear h0
  obtain ⟨a, c, e, f, g, Q, k1, k2, k3, k4⟩ := mtch_parts hr
  have hl := lay_rows r hr
  have sQ := Q.sum
  have qa := Q.ha
  have qc := Q.hc
  have qe := Q.he
  have qf := Q.hf
  have qg := Q.hg
  clear Q hr
  obtain ⟨h1, h2, h3, h4, h5, h6, h7, h8, h9, h10, z1, z2, z3, z4, z5, z6, z7⟩ := M
  obtain ⟨op, form, frm, kind, rd, rs1, rs2, rs3, rm, imm, csr⟩ := x
  obtain ⟨rop, rform, rfrm, rkind, mask, mtch, lay⟩ := r
  simp only [] at *
  subst o1 o2 o3 o4
  obtain ⟨i, hi⟩ : ∃ i, (imm % 4096).toNat = i := ⟨_, rfl⟩
  have hi2 : i < 4096 := by omega
  have hs := s12_of h8 h9 hi
  rcases hl with rfl | rfl | rfl | rfl | rfl | rfl | rfl | rfl | rfl
  · have j2 := k2 (by omega)
    have j3 := k3 (by omega)
    obtain ⟨j4, j5, j6⟩ := k4 (by omega)
    have nrs2 := z2 (by omega)
    have nrs3 := z3 (by omega)
    have nrm := z4 (by omega)
    have ncsr := z6 (by omega)
    simp only [FW] at hw
    rw [hi] at hw
    clear k1 k2 k3 k4 z1 z2 z3 z4 z5 z6 z7
    have P : Parts w a (rd) (c) (rs1) (i % 32) (i / 32 % 4) (i / 128) := parts_of qa (by omega) (by omega) (by omega) (by omega) (by omega) (by omega) (by clear hs fo hi; omega)
    refine ⟨by have := P.sum; have := P.he; have := P.hf; have := P.hg; clear hs fo hi hw; omega, fo (fun h => by cases h) (fun h => by cases h), ?_⟩
    show (⟨op, form, frm, kind, rg w 7, rg w 15, 0, 0, 0, s12 (w / 1048576), 0⟩ : I11) = ⟨op, form, frm, kind, rd, rs1, rs2, rs3, rm, imm, csr⟩
    rw [rg7, P.p1, rg15, P.p3, P.q4, show i % 32 + 32 * (i / 32 % 4) + 128 * (i / 128) = i by clear P hs fo hi hw; omega, hs, nrs2, nrs3, nrm, ncsr]
  · have j2 := k2 (by omega)
    have j3 := k3 (by omega)
    obtain ⟨j4, j5, j6⟩ := k4 (by omega)
    have nrd := z1 rfl
    have nrs3 := z3 (by omega)
    have nrm := z4 (by omega)
    have ncsr := z6 (by omega)
    simp only [FW] at hw
    rw [hi] at hw
    clear k1 k2 k3 k4 z1 z2 z3 z4 z5 z6 z7
    have P : Parts w a (i % 32) (c) (rs1) (rs2) (i / 32 % 4) (i / 128) := parts_of qa (by omega) (by omega) (by omega) (by omega) (by omega) (by omega) (by clear hs fo hi; omega)
    refine ⟨by have := P.sum; have := P.he; have := P.hf; have := P.hg; clear hs fo hi hw; omega, fo (fun h => by cases h) (fun h => by cases h), ?_⟩
    show (⟨op, form, frm, kind, 0, rg w 15, rg w 20, 0, 0, s12 (32 * (w / 33554432) + rg w 7), 0⟩ : I11) = ⟨op, form, frm, kind, rd, rs1, rs2, rs3, rm, imm, csr⟩
    rw [rg7, P.p1, rg15, P.p3, rg20, P.p4, P.q5, show 32 * (i / 32 % 4 + 4 * (i / 128)) + i % 32 = i by clear P hs fo hi hw; omega, hs, nrd, nrs3, nrm, ncsr]
  · have j1 := k1 rfl
    have j2 := k2 (by omega)
    have j3 := k3 (by omega)
    have nimm := z5 (by omega)
    have ncsr := z6 (by omega)
    simp only [FW] at hw
    clear k1 k2 k3 k4 z1 z2 z3 z4 z5 z6 z7
    have P : Parts w a (rd) (rm) (rs1) (rs2) (f) (rs3) := parts_of qa (by omega) (by omega) (by omega) (by omega) (by omega) (by omega) (by clear hs fo hi; omega)
    refine ⟨by have := P.sum; have := P.he; have := P.hf; have := P.hg; clear hs fo hi hw; omega, fo (fun _ => by rw [P.p2]; exact ⟨h6, h7⟩) (fun h => by cases h), ?_⟩
    show (⟨op, form, frm, kind, rg w 7, rg w 15, rg w 20, rg w 27, w / 4096 % 8, 0, 0⟩ : I11) = ⟨op, form, frm, kind, rd, rs1, rs2, rs3, rm, imm, csr⟩
    rw [rg7, P.p1, rg15, P.p3, rg20, P.p4, rg27, P.p6, P.p2, nimm, ncsr]
  · have j1 := k1 rfl
    have j2 := k2 (by omega)
    have nrs3 := z3 (by omega)
    have nimm := z5 (by omega)
    have ncsr := z6 (by omega)
    simp only [FW] at hw
    clear k1 k2 k3 k4 z1 z2 z3 z4 z5 z6 z7
    have P : Parts w a (rd) (rm) (rs1) (rs2) (f) (g) := parts_of qa (by omega) (by omega) (by omega) (by omega) (by omega) (by omega) (by clear hs fo hi; omega)
    refine ⟨by have := P.sum; have := P.he; have := P.hf; have := P.hg; clear hs fo hi hw; omega, fo (fun _ => by rw [P.p2]; exact ⟨h6, h7⟩) (fun h => by cases h), ?_⟩
    show (⟨op, form, frm, kind, rg w 7, rg w 15, rg w 20, 0, w / 4096 % 8, 0, 0⟩ : I11) = ⟨op, form, frm, kind, rd, rs1, rs2, rs3, rm, imm, csr⟩
    rw [rg7, P.p1, rg15, P.p3, rg20, P.p4, P.p2, nrs3, nimm, ncsr]
  · have j2 := k2 (by omega)
    have nrs3 := z3 (by omega)
    have nrm := z4 (by omega)
    have nimm := z5 (by omega)
    have ncsr := z6 (by omega)
    simp only [FW] at hw
    clear k1 k2 k3 k4 z1 z2 z3 z4 z5 z6 z7
    have P : Parts w a (rd) (c) (rs1) (rs2) (f) (g) := parts_of qa (by omega) (by omega) (by omega) (by omega) (by omega) (by omega) (by clear hs fo hi; omega)
    refine ⟨by have := P.sum; have := P.he; have := P.hf; have := P.hg; clear hs fo hi hw; omega, fo (fun h => by cases h) (fun h => by cases h), ?_⟩
    show (⟨op, form, frm, kind, rg w 7, rg w 15, rg w 20, 0, 0, 0, 0⟩ : I11) = ⟨op, form, frm, kind, rd, rs1, rs2, rs3, rm, imm, csr⟩
    rw [rg7, P.p1, rg15, P.p3, rg20, P.p4, nrs3, nrm, nimm, ncsr]
  · have j1 := k1 rfl
    have nrs2 := z2 (by omega)
    have nrs3 := z3 (by omega)
    have nimm := z5 (by omega)
    have ncsr := z6 (by omega)
    simp only [FW] at hw
    clear k1 k2 k3 k4 z1 z2 z3 z4 z5 z6 z7
    have P : Parts w a (rd) (rm) (rs1) (e) (f) (g) := parts_of qa (by omega) (by omega) (by omega) (by omega) (by omega) (by omega) (by clear hs fo hi; omega)
    refine ⟨by have := P.sum; have := P.he; have := P.hf; have := P.hg; clear hs fo hi hw; omega, fo (fun _ => by rw [P.p2]; exact ⟨h6, h7⟩) (fun h => by cases h), ?_⟩
    show (⟨op, form, frm, kind, rg w 7, rg w 15, 0, 0, w / 4096 % 8, 0, 0⟩ : I11) = ⟨op, form, frm, kind, rd, rs1, rs2, rs3, rm, imm, csr⟩
    rw [rg7, P.p1, rg15, P.p3, P.p2, nrs2, nrs3, nimm, ncsr]
  · have nrs2 := z2 (by omega)
    have nrs3 := z3 (by omega)
    have nrm := z4 (by omega)
    have nimm := z5 (by omega)
    have ncsr := z6 (by omega)
    simp only [FW] at hw
    clear k1 k2 k3 k4 z1 z2 z3 z4 z5 z6 z7
    have P : Parts w a (rd) (c) (rs1) (e) (f) (g) := parts_of qa (by omega) (by omega) (by omega) (by omega) (by omega) (by omega) (by clear hs fo hi; omega)
    refine ⟨by have := P.sum; have := P.he; have := P.hf; have := P.hg; clear hs fo hi hw; omega, fo (fun h => by cases h) (fun h => by cases h), ?_⟩
    show (⟨op, form, frm, kind, rg w 7, rg w 15, 0, 0, 0, 0, 0⟩ : I11) = ⟨op, form, frm, kind, rd, rs1, rs2, rs3, rm, imm, csr⟩
    rw [rg7, P.p1, rg15, P.p3, nrs2, nrs3, nrm, nimm, ncsr]
  · obtain ⟨j4, j5, j6⟩ := k4 (by omega)
    have nrs2 := z2 (by omega)
    have nrs3 := z3 (by omega)
    have nrm := z4 (by omega)
    have nimm := z5 (by omega)
    have c1 := z7 (by omega)
    simp only [FW] at hw
    clear k1 k2 k3 k4 z1 z2 z3 z4 z5 z6 z7
    have P : Parts w a (rd) (c) (rs1) (csr) (0) (0) := parts_of qa (by omega) (by omega) (by omega) (by omega) (by omega) (by omega) (by clear hs fo hi; omega)
    refine ⟨by have := P.sum; have := P.he; have := P.hf; have := P.hg; clear hs fo hi hw; omega, fo (fun h => by cases h) (fun _ => by rw [P.q4]; clear P hs fo hi hw; omega), ?_⟩
    show (⟨op, form, frm, kind, rg w 7, rg w 15, 0, 0, 0, 0, w / 1048576 % 256⟩ : I11) = ⟨op, form, frm, kind, rd, rs1, rs2, rs3, rm, imm, csr⟩
    rw [rg7, P.p1, rg15, P.p3, P.q4, show (csr + 32 * 0 + 128 * 0) % 256 = csr by clear P hs fo hi hw; omega, nrs2, nrs3, nrm, nimm]
  · obtain ⟨j4, j5, j6⟩ := k4 (by omega)
    have nrs2 := z2 (by omega)
    have nrs3 := z3 (by omega)
    have nrm := z4 (by omega)
    have nimm := z5 (by omega)
    have c1 := z7 (by omega)
    simp only [FW] at hw
    clear k1 k2 k3 k4 z1 z2 z3 z4 z5 z6 z7
    have P : Parts w a (rd) (c) (rs1) (csr) (0) (0) := parts_of qa (by omega) (by omega) (by omega) (by omega) (by omega) (by omega) (by clear hs fo hi; omega)
    refine ⟨by have := P.sum; have := P.he; have := P.hf; have := P.hg; clear hs fo hi hw; omega, fo (fun h => by cases h) (fun _ => by rw [P.q4]; clear P hs fo hi hw; omega), ?_⟩
    show (⟨op, form, frm, kind, rg w 7, rg w 15, 0, 0, 0, 0, w / 1048576 % 256⟩ : I11) = ⟨op, form, frm, kind, rd, rs1, rs2, rs3, rm, imm, csr⟩
    rw [rg7, P.p1, rg15, P.p3, P.q4, show (csr + 32 * 0 + 128 * 0) % 256 = csr by clear P hs fo hi hw; omega, nrs2, nrs3, nrm, nimm]
end Go.Proofs.Yteelconabmfnkaa

/- Plain: what may be encoded. -/
namespace Go.Proofs.Yteelconabmfnkaa
open Go Go.RowKit
set_option maxRecDepth 100000
set_option maxHeartbeats 1000000
set_option linter.unusedVariables false
theorem modeB_is {m : Nat} : modeB m = true ↔ m < 8 ∧ m ≠ 5 ∧ m ≠ 6 := by
  unfold modeB
  simp
  omega
theorem immB_is {x : I11} : immB x = true ↔ -2048 ≤ x.imm ∧ x.imm < 2048 := by
  unfold immB
  simp
theorem of_ops {op f g k : Nat} {r : R7} (h : OFS op f g k = some r) : r ∈ ROWS ∧ op = r.op ∧ f = r.form ∧ g = r.frm ∧ k = r.kind := by
  unfold OFS at h
  split at h
  · cases h
  · have hm := List.mem_of_find?_eq_some h
    have hp := List.find?_some h
    simp only [Bool.and_eq_true, beq_iff_eq] at hp
    exact ⟨hm, hp.1.symm, hp.2.1.symm, hp.2.2.1.symm, hp.2.2.2.symm⟩
theorem ofs_of {x : I11} {r : R7} (hr : r ∈ ROWS) (o1 : x.op = r.op) (o2 : x.form = r.form) (o3 : x.frm = r.frm) (o4 : x.kind = r.kind) : OFS x.op x.form x.frm x.kind = some r := by
  have F := row_fine r hr
  unfold OFS
  rw [if_neg (by rw [o1]; have := F.op1; have := F.op2; omega), o1, o2, o3, o4]
  unfold OF
  cases hf : ROWS.find? fun q => q.op == r.op && (q.form == r.form && (q.frm == r.frm && q.kind == r.kind)) with
  | none =>
    have := List.find?_eq_none.1 hf r hr
    simp at this
  | some q =>
    have hp := List.find?_some hf
    simp only [Bool.and_eq_true, beq_iff_eq] at hp
    rw [row_asked q (List.mem_of_find?_eq_some hf) r hr hp.1 hp.2.1 hp.2.2.1 hp.2.2.2]
theorem mays_of {l : Nat} {x : I11} (hl : 1 ≤ l ∧ l ≤ 9) (h : mayL l x = true) (he : withOp x (ownL l x) = x) : Mays l x := by
  obtain ⟨op, form, frm, kind, rd, rs1, rs2, rs3, rm, imm, csr⟩ := x
  rcases (by omega : l = 1 ∨ l = 2 ∨ l = 3 ∨ l = 4 ∨ l = 5 ∨ l = 6 ∨ l = 7 ∨ l = 8 ∨ l = 9) with rfl | rfl | rfl | rfl | rfl | rfl | rfl | rfl | rfl
  all_goals
    simp only [mayL, may1, may2, may3, may4, may6, may7, may8, may9, Bool.and_eq_true, decide_eq_true_eq, modeB_is, immB_is] at h
    simp only [withOp, ownL, ownRd, own2, own3, own4, own6, own7, own8, own9, I11.mk.injEq, true_and, and_true] at he
    constructor <;> simp only [] <;> omega
theorem of_mays {l : Nat} {x : I11} (hl : 1 ≤ l ∧ l ≤ 9) (M : Mays l x) : mayL l x = true ∧ withOp x (ownL l x) = x := by
  obtain ⟨h1, h2, h3, h4, h5, h6, h7, h8, h9, h10, z1, z2, z3, z4, z5, z6, z7⟩ := M
  obtain ⟨op, form, frm, kind, rd, rs1, rs2, rs3, rm, imm, csr⟩ := x
  simp only [] at *
  rcases (by omega : l = 1 ∨ l = 2 ∨ l = 3 ∨ l = 4 ∨ l = 5 ∨ l = 6 ∨ l = 7 ∨ l = 8 ∨ l = 9) with rfl | rfl | rfl | rfl | rfl | rfl | rfl | rfl | rfl
  all_goals
    simp only [mayL, may1, may2, may3, may4, may6, may7, may8, may9, Bool.and_eq_true, decide_eq_true_eq, modeB_is, immB_is]
    simp only [withOp, ownL, ownRd, own2, own3, own4, own6, own7, own8, own9, I11.mk.injEq, true_and, and_true]
    omega
theorem vl_fw (l : Nat) (hl : 1 ≤ l ∧ l ≤ 9) (x : I11) : VL l x = FW l x := by
  rcases (by omega : l = 1 ∨ l = 2 ∨ l = 3 ∨ l = 4 ∨ l = 5 ∨ l = 6 ∨ l = 7 ∨ l = 8 ∨ l = 9) with rfl | rfl | rfl | rfl | rfl | rfl | rfl | rfl | rfl
  all_goals
    simp only [VL, FW, V1, V2, V3, V4, V6, V7, V8, V9]
  all_goals omega
/-- what may be: its row, its word -/
theorem may_row {x : I11} (h : MAY x = true) : ∃ r ∈ ROWS, OFS x.op x.form x.frm x.kind = some r ∧ x.op = r.op ∧ x.form = r.form ∧ x.frm = r.frm ∧ x.kind = r.kind ∧ Mays r.lay x ∧ WORD x = r.mtch + FW r.lay x := by
  unfold MAY at h
  cases ho : OFS x.op x.form x.frm x.kind with
  | none => rw [ho] at h; cases h
  | some r =>
    rw [ho] at h
    simp only [mayE, Bool.and_eq_true, decide_eq_true_eq] at h
    obtain ⟨hr, o1, o2, o3, o4⟩ := of_ops ho
    have F := row_fine r hr
    have M := mays_of ⟨F.lay1, F.lay2⟩ h.1 h.2
    refine ⟨r, hr, rfl, o1, o2, o3, o4, M, ?_⟩
    unfold WORD
    rw [ho]
    show r.mtch ^^^ VL r.lay x = _
    rw [vl_fw _ ⟨F.lay1, F.lay2⟩, word_sum hr M]
theorem word_of {x : I11} {r : R7} (hr : r ∈ ROWS) (o1 : x.op = r.op) (o2 : x.form = r.form) (o3 : x.frm = r.frm) (o4 : x.kind = r.kind) (M : Mays r.lay x) : MAY x = true ∧ WORD x = r.mtch + FW r.lay x := by
  have ho := ofs_of hr o1 o2 o3 o4
  have F := row_fine r hr
  have hm := of_mays ⟨F.lay1, F.lay2⟩ M
  unfold MAY WORD
  rw [ho]
  refine ⟨?_, ?_⟩
  · show (mayL r.lay x && decide (withOp x (ownL r.lay x) = x)) = true
    rw [hm.1, hm.2]; simp
  · show r.mtch ^^^ VL r.lay x = _
    rw [vl_fw _ ⟨F.lay1, F.lay2⟩, word_sum hr M]
/-- P26.4, plain: both ways -/
theorem dec_word {x : I11} (h : MAY x = true) : WORD x < 4294967296 ∧ DEC (WORD x) = some x := by
  obtain ⟨r, hr, ho, o1, o2, o3, o4, M, hw⟩ := may_row h
  obtain ⟨h1, h2, h3⟩ := word_dec hr M o1 o2 o3 o4
  rw [hw]
  refine ⟨h1, ?_⟩
  unfold DEC
  rw [find_of hr h2, Option.map_some, h3]
theorem word_dec' {w : Nat} (hw : w < 4294967296) {x : I11} (h : DEC w = some x) : MAY x = true ∧ WORD x = w := by
  obtain ⟨r, hr, _, _, M, o1, o2, o3, o4, e⟩ := dec_fine hw h
  obtain ⟨h1, h2⟩ := word_of hr o1 o2 o3 o4 M
  exact ⟨h1, h2.trans e⟩
theorem word_inj {x y : I11} (h : MAY x = true) (k : MAY y = true) (e : WORD x = WORD y) : x = y := by
  have a := (dec_word h).2
  have b := (dec_word k).2
  rw [e, b] at a
  exact (Option.some.inj a).symm
end Go.Proofs.Yteelconabmfnkaa
