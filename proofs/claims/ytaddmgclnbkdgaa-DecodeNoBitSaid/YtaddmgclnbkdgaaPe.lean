/- Plain: what is decoded is within its bounds; P25.4. -/
import Derived.Test.YtaddmgclnbkdgaaPd
namespace Go.Proofs.Ytaddmgclnbkdgaa
open Go Go.RowKit
set_option maxRecDepth 100000
set_option linter.unusedVariables false
theorem dec_fine {w : Nat} (hw : w < 4294967296) {x : I11} (h : DEC w = some x) : ∃ r ∈ ROWS, fitsB r w = true ∧ FIND w = some r ∧ Mays r.lay x ∧ x.op = r.op ∧ x.form = r.form ∧ x.frm = r.frm ∧ x.kind = r.kind ∧ r.mtch + FW r.lay x = w := by
  obtain ⟨r, hr, hf, hF, rfl⟩ := dec_row h
  obtain ⟨p1, p2, p3, p4⟩ := ofRow_op w r
  refine ⟨r, hr, hf, hF, ?_, p1, p2, p3, p4, enc_dec hw hr hf⟩
  clear h hF p1 p2 p3 p4
  have hl := lay_rows r hr
  have hm := fits_mod hf
  have hc := fits_csr hf
  have b7 := rg_lt w 7
  have b15 := rg_lt w 15
  have b20 := rg_lt w 20
  have b27 := rg_lt w 27
  have i1 := s12_lo (w / 1048576) (by omega)
  have i2 := s12_lo (32 * (w / 33554432) + rg w 7) (by omega)
  have m8 : w / 4096 % 8 < 8 := Nat.mod_lt _ (by decide)
  obtain ⟨op, form, frm, kind, mask, mtch, lay⟩ := r
  simp only [] at hl hm hc
  clear hf hr
  rcases hl with rfl | rfl | rfl | rfl | rfl | rfl | rfl | rfl | rfl
  · show Mays 1 ⟨op, form, frm, kind, rg w 7, rg w 15, 0, 0, 0, s12 (w / 1048576), 0⟩
    constructor <;> simp only [] <;> first | omega | (intro hz; first | omega | (exfalso; simp at hz; done) | trivial)
  · show Mays 2 ⟨op, form, frm, kind, 0, rg w 15, rg w 20, 0, 0, s12 (32 * (w / 33554432) + rg w 7), 0⟩
    constructor <;> simp only [] <;> first | omega | (intro hz; first | omega | (exfalso; simp at hz; done) | trivial)
  · have := hm rfl
    show Mays 3 ⟨op, form, frm, kind, rg w 7, rg w 15, rg w 20, rg w 27, w / 4096 % 8, 0, 0⟩
    constructor <;> simp only [] <;> first | omega | (intro hz; first | omega | (exfalso; simp at hz; done) | trivial)
  · have := hm rfl
    show Mays 4 ⟨op, form, frm, kind, rg w 7, rg w 15, rg w 20, 0, w / 4096 % 8, 0, 0⟩
    constructor <;> simp only [] <;> first | omega | (intro hz; first | omega | (exfalso; simp at hz; done) | trivial)
  · show Mays 5 ⟨op, form, frm, kind, rg w 7, rg w 15, rg w 20, 0, 0, 0, 0⟩
    constructor <;> simp only [] <;> first | omega | (intro hz; first | omega | (exfalso; simp at hz; done) | trivial)
  · have := hm rfl
    show Mays 6 ⟨op, form, frm, kind, rg w 7, rg w 15, 0, 0, w / 4096 % 8, 0, 0⟩
    constructor <;> simp only [] <;> first | omega | (intro hz; first | omega | (exfalso; simp at hz; done) | trivial)
  · show Mays 7 ⟨op, form, frm, kind, rg w 7, rg w 15, 0, 0, 0, 0, 0⟩
    constructor <;> simp only [] <;> first | omega | (intro hz; first | omega | (exfalso; simp at hz; done) | trivial)
  · have := hc rfl rfl
    show Mays 8 ⟨op, form, frm, kind, rg w 7, rg w 15, 0, 0, 0, 0, w / 1048576 % 256⟩
    have e : w / 1048576 % 256 = w / 1048576 := Nat.mod_eq_of_lt (by omega)
    rw [e]
    constructor <;> simp only [] <;> first | omega | (intro hz; first | omega | (exfalso; simp at hz; done) | trivial)
  · have := hc rfl rfl
    show Mays 9 ⟨op, form, frm, kind, rg w 7, rg w 15, 0, 0, 0, 0, w / 1048576 % 256⟩
    have e : w / 1048576 % 256 = w / 1048576 := Nat.mod_eq_of_lt (by omega)
    rw [e]
    constructor <;> simp only [] <;> first | omega | (intro hz; first | omega | (exfalso; simp at hz; done) | trivial)
/-- P25.4, plain -/
theorem dec_inj {v w : Nat} (hv : v < 4294967296) (hw : w < 4294967296) {x : I11} (h : DEC v = some x) (k : DEC w = some x) : v = w := by
  obtain ⟨r, hr, _, _, _, a1, a2, a3, a4, a5⟩ := dec_fine hv h
  obtain ⟨q, hq, _, _, _, b1, b2, b3, b4, b5⟩ := dec_fine hw k
  have : r = q := row_asked r hr q hq (a1.symm.trans b1) (a2.symm.trans b2) (a3.symm.trans b3) (a4.symm.trans b4)
  subst this
  rw [← a5, ← b5]
end Go.Proofs.Ytaddmgclnbkdgaa
