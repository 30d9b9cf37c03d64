/- Plain: Decode of Encode is the instruction. -/
import Derived.Test.YtaddmgclnbkdgaaPg
namespace Go.Proofs.Ytaddmgclnbkdgaa
open Go Go.RowKit
set_option maxRecDepth 100000
set_option maxHeartbeats 1000000
set_option linter.unusedVariables false
theorem s12_of {imm : Int} {i : Nat} (h1 : -2048 ≤ imm) (h2 : imm < 2048) (h : (imm % 4096).toNat = i) : s12 i = imm := by
  unfold s12
  split <;> omega
theorem fits_of {r : R7} {w : Nat} (h : (w ^^^ r.mtch) &&& r.mask = 0) (h1 : modB r.lay = true → w / 4096 % 8 ≠ 5 ∧ w / 4096 % 8 ≠ 6) (h2 : csrB r.lay = true → 1 ≤ w / 1048576 ∧ w / 1048576 ≤ 3) : fitsB r w = true := by
  unfold fitsB
  rw [h]
  cases hm : modB r.lay with
  | true => obtain ⟨a, b⟩ := h1 hm; simp [a, b]
  | false =>
    cases hc : csrB r.lay with
    | true => obtain ⟨a, b⟩ := h2 hc; simp [a, b]
    | false => simp
theorem word_dec {r : R7} {x : I11} (hr : r ∈ ROWS) (M : Mays r.lay x) (o1 : x.op = r.op) (o2 : x.form = r.form) (o3 : x.frm = r.frm) (o4 : x.kind = r.kind) : r.mtch + FW r.lay x < 4294967296 ∧ fitsB r (r.mtch + FW r.lay x) = true ∧ ofRow (r.mtch + FW r.lay x) r = x := by
  have h0 := word_fits0 hr M
  obtain ⟨w, hw⟩ : ∃ w, r.mtch + FW r.lay x = w := ⟨_, rfl⟩
  rw [hw] at h0 ⊢
  have fo := fun h1 h2 => fits_of (r := r) (w := w) h0 h1 h2
  clear h0
  obtain ⟨a, c, e, f, g, Q, k1, k2, k3, k4⟩ := mtch_parts hr
  have hl := lay_rows r hr
  have sQ := Q.sum
  have qa := Q.ha
  have qc := Q.hc
  have qe := Q.he
  have qf := Q.hf
  have qg := Q.hg
  clear Q hr
  obtain ⟨h1, h2, h3, h4, h5, h6, h7, h8, h9, h10, z1, z2, z3, z4, z5, z6, z7⟩ := M
  obtain ⟨op, form, frm, kind, rd, rs1, rs2, rs3, rm, imm, csr⟩ := x
  obtain ⟨rop, rform, rfrm, rkind, mask, mtch, lay⟩ := r
  simp only [] at *
  subst o1 o2 o3 o4
  obtain ⟨i, hi⟩ : ∃ i, (imm % 4096).toNat = i := ⟨_, rfl⟩
  have hi2 : i < 4096 := by omega
  have hs := s12_of h8 h9 hi
  rcases hl with rfl | rfl | rfl | rfl | rfl | rfl | rfl | rfl | rfl
  · have j2 := k2 (by omega)
    have j3 := k3 (by omega)
    obtain ⟨j4, j5, j6⟩ := k4 (by omega)
    have nrs2 := z2 (by omega)
    have nrs3 := z3 (by omega)
    have nrm := z4 (by omega)
    have ncsr := z6 (by omega)
    simp only [FW] at hw
    rw [hi] at hw
    clear k1 k2 k3 k4 z1 z2 z3 z4 z5 z6 z7
    have P : Parts w a (rd) (c) (rs1) (i % 32) (i / 32 % 4) (i / 128) := parts_of qa (by omega) (by omega) (by omega) (by omega) (by omega) (by omega) (by clear hs fo hi; omega)
    refine ⟨by have := P.sum; have := P.he; have := P.hf; have := P.hg; clear hs fo hi hw; omega, fo (fun h => by cases h) (fun h => by cases h), ?_⟩
    show (⟨op, form, frm, kind, rg w 7, rg w 15, 0, 0, 0, s12 (w / 1048576), 0⟩ : I11) = ⟨op, form, frm, kind, rd, rs1, rs2, rs3, rm, imm, csr⟩
    rw [rg7, P.p1, rg15, P.p3, P.q4, show i % 32 + 32 * (i / 32 % 4) + 128 * (i / 128) = i by clear P hs fo hi hw; omega, hs, nrs2, nrs3, nrm, ncsr]
  · have j2 := k2 (by omega)
    have j3 := k3 (by omega)
    obtain ⟨j4, j5, j6⟩ := k4 (by omega)
    have nrd := z1 rfl
    have nrs3 := z3 (by omega)
    have nrm := z4 (by omega)
    have ncsr := z6 (by omega)
    simp only [FW] at hw
    rw [hi] at hw
    clear k1 k2 k3 k4 z1 z2 z3 z4 z5 z6 z7
    have P : Parts w a (i % 32) (c) (rs1) (rs2) (i / 32 % 4) (i / 128) := parts_of qa (by omega) (by omega) (by omega) (by omega) (by omega) (by omega) (by clear hs fo hi; omega)
    refine ⟨by have := P.sum; have := P.he; have := P.hf; have := P.hg; clear hs fo hi hw; omega, fo (fun h => by cases h) (fun h => by cases h), ?_⟩
    show (⟨op, form, frm, kind, 0, rg w 15, rg w 20, 0, 0, s12 (32 * (w / 33554432) + rg w 7), 0⟩ : I11) = ⟨op, form, frm, kind, rd, rs1, rs2, rs3, rm, imm, csr⟩
    rw [rg7, P.p1, rg15, P.p3, rg20, P.p4, P.q5, show 32 * (i / 32 % 4 + 4 * (i / 128)) + i % 32 = i by clear P hs fo hi hw; omega, hs, nrd, nrs3, nrm, ncsr]
  · have j1 := k1 rfl
    have j2 := k2 (by omega)
    have j3 := k3 (by omega)
    have nimm := z5 (by omega)
    have ncsr := z6 (by omega)
    simp only [FW] at hw
    clear k1 k2 k3 k4 z1 z2 z3 z4 z5 z6 z7
    have P : Parts w a (rd) (rm) (rs1) (rs2) (f) (rs3) := parts_of qa (by omega) (by omega) (by omega) (by omega) (by omega) (by omega) (by clear hs fo hi; omega)
    refine ⟨by have := P.sum; have := P.he; have := P.hf; have := P.hg; clear hs fo hi hw; omega, fo (fun _ => by rw [P.p2]; exact ⟨h6, h7⟩) (fun h => by cases h), ?_⟩
    show (⟨op, form, frm, kind, rg w 7, rg w 15, rg w 20, rg w 27, w / 4096 % 8, 0, 0⟩ : I11) = ⟨op, form, frm, kind, rd, rs1, rs2, rs3, rm, imm, csr⟩
    rw [rg7, P.p1, rg15, P.p3, rg20, P.p4, rg27, P.p6, P.p2, nimm, ncsr]
  · have j1 := k1 rfl
    have j2 := k2 (by omega)
    have nrs3 := z3 (by omega)
    have nimm := z5 (by omega)
    have ncsr := z6 (by omega)
    simp only [FW] at hw
    clear k1 k2 k3 k4 z1 z2 z3 z4 z5 z6 z7
    have P : Parts w a (rd) (rm) (rs1) (rs2) (f) (g) := parts_of qa (by omega) (by omega) (by omega) (by omega) (by omega) (by omega) (by clear hs fo hi; omega)
    refine ⟨by have := P.sum; have := P.he; have := P.hf; have := P.hg; clear hs fo hi hw; omega, fo (fun _ => by rw [P.p2]; exact ⟨h6, h7⟩) (fun h => by cases h), ?_⟩
    show (⟨op, form, frm, kind, rg w 7, rg w 15, rg w 20, 0, w / 4096 % 8, 0, 0⟩ : I11) = ⟨op, form, frm, kind, rd, rs1, rs2, rs3, rm, imm, csr⟩
    rw [rg7, P.p1, rg15, P.p3, rg20, P.p4, P.p2, nrs3, nimm, ncsr]
  · have j2 := k2 (by omega)
    have nrs3 := z3 (by omega)
    have nrm := z4 (by omega)
    have nimm := z5 (by omega)
    have ncsr := z6 (by omega)
    simp only [FW] at hw
    clear k1 k2 k3 k4 z1 z2 z3 z4 z5 z6 z7
    have P : Parts w a (rd) (c) (rs1) (rs2) (f) (g) := parts_of qa (by omega) (by omega) (by omega) (by omega) (by omega) (by omega) (by clear hs fo hi; omega)
    refine ⟨by have := P.sum; have := P.he; have := P.hf; have := P.hg; clear hs fo hi hw; omega, fo (fun h => by cases h) (fun h => by cases h), ?_⟩
    show (⟨op, form, frm, kind, rg w 7, rg w 15, rg w 20, 0, 0, 0, 0⟩ : I11) = ⟨op, form, frm, kind, rd, rs1, rs2, rs3, rm, imm, csr⟩
    rw [rg7, P.p1, rg15, P.p3, rg20, P.p4, nrs3, nrm, nimm, ncsr]
  · have j1 := k1 rfl
    have nrs2 := z2 (by omega)
    have nrs3 := z3 (by omega)
    have nimm := z5 (by omega)
    have ncsr := z6 (by omega)
    simp only [FW] at hw
    clear k1 k2 k3 k4 z1 z2 z3 z4 z5 z6 z7
    have P : Parts w a (rd) (rm) (rs1) (e) (f) (g) := parts_of qa (by omega) (by omega) (by omega) (by omega) (by omega) (by omega) (by clear hs fo hi; omega)
    refine ⟨by have := P.sum; have := P.he; have := P.hf; have := P.hg; clear hs fo hi hw; omega, fo (fun _ => by rw [P.p2]; exact ⟨h6, h7⟩) (fun h => by cases h), ?_⟩
    show (⟨op, form, frm, kind, rg w 7, rg w 15, 0, 0, w / 4096 % 8, 0, 0⟩ : I11) = ⟨op, form, frm, kind, rd, rs1, rs2, rs3, rm, imm, csr⟩
    rw [rg7, P.p1, rg15, P.p3, P.p2, nrs2, nrs3, nimm, ncsr]
  · have nrs2 := z2 (by omega)
    have nrs3 := z3 (by omega)
    have nrm := z4 (by omega)
    have nimm := z5 (by omega)
    have ncsr := z6 (by omega)
    simp only [FW] at hw
    clear k1 k2 k3 k4 z1 z2 z3 z4 z5 z6 z7
    have P : Parts w a (rd) (c) (rs1) (e) (f) (g) := parts_of qa (by omega) (by omega) (by omega) (by omega) (by omega) (by omega) (by clear hs fo hi; omega)
    refine ⟨by have := P.sum; have := P.he; have := P.hf; have := P.hg; clear hs fo hi hw; omega, fo (fun h => by cases h) (fun h => by cases h), ?_⟩
    show (⟨op, form, frm, kind, rg w 7, rg w 15, 0, 0, 0, 0, 0⟩ : I11) = ⟨op, form, frm, kind, rd, rs1, rs2, rs3, rm, imm, csr⟩
    rw [rg7, P.p1, rg15, P.p3, nrs2, nrs3, nrm, nimm, ncsr]
  · obtain ⟨j4, j5, j6⟩ := k4 (by omega)
    have nrs2 := z2 (by omega)
    have nrs3 := z3 (by omega)
    have nrm := z4 (by omega)
    have nimm := z5 (by omega)
    have c1 := z7 (by omega)
    simp only [FW] at hw
    clear k1 k2 k3 k4 z1 z2 z3 z4 z5 z6 z7
    have P : Parts w a (rd) (c) (rs1) (csr) (0) (0) := parts_of qa (by omega) (by omega) (by omega) (by omega) (by omega) (by omega) (by clear hs fo hi; omega)
    refine ⟨by have := P.sum; have := P.he; have := P.hf; have := P.hg; clear hs fo hi hw; omega, fo (fun h => by cases h) (fun _ => by rw [P.q4]; clear P hs fo hi hw; omega), ?_⟩
    show (⟨op, form, frm, kind, rg w 7, rg w 15, 0, 0, 0, 0, w / 1048576 % 256⟩ : I11) = ⟨op, form, frm, kind, rd, rs1, rs2, rs3, rm, imm, csr⟩
    rw [rg7, P.p1, rg15, P.p3, P.q4, show (csr + 32 * 0 + 128 * 0) % 256 = csr by clear P hs fo hi hw; omega, nrs2, nrs3, nrm, nimm]
  · obtain ⟨j4, j5, j6⟩ := k4 (by omega)
    have nrs2 := z2 (by omega)
    have nrs3 := z3 (by omega)
    have nrm := z4 (by omega)
    have nimm := z5 (by omega)
    have c1 := z7 (by omega)
    simp only [FW] at hw
    clear k1 k2 k3 k4 z1 z2 z3 z4 z5 z6 z7
    have P : Parts w a (rd) (c) (rs1) (csr) (0) (0) := parts_of qa (by omega) (by omega) (by omega) (by omega) (by omega) (by omega) (by clear hs fo hi; omega)
    refine ⟨by have := P.sum; have := P.he; have := P.hf; have := P.hg; clear hs fo hi hw; omega, fo (fun h => by cases h) (fun _ => by rw [P.q4]; clear P hs fo hi hw; omega), ?_⟩
    show (⟨op, form, frm, kind, rg w 7, rg w 15, 0, 0, 0, 0, w / 1048576 % 256⟩ : I11) = ⟨op, form, frm, kind, rd, rs1, rs2, rs3, rm, imm, csr⟩
    rw [rg7, P.p1, rg15, P.p3, P.q4, show (csr + 32 * 0 + 128 * 0) % 256 = csr by clear P hs fo hi hw; omega, nrs2, nrs3, nrm, nimm]
end Go.Proofs.Ytaddmgclnbkdgaa
