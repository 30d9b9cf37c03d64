/- Vpa: several texts in one. -/
import Derived.Test.YteelconabmfnkaaLd
import Derived.Test.YteelconabmfnkaaVj
import Derived.Test.YteelconabmfnkaaVk
/- abacusref25.May: the parts. -/
namespace Go.Proofs.Yteelconabmfnkaa
open Go Go.RowKit
set_option maxHeartbeats 4000000
set_option maxRecDepth 100000
set_option linter.unusedVariables false
set_option linter.unusedSimpArgs false
theorem ofn_of' (op f g k : Nat) : (OFN op f g k).map (·.1) = OF op f g k := by
  unfold OFN OF
  rw [← alln_rows]
  exact find_map (fun p : R7 × ByteArray => p.1) (fun r => r.op == op && (r.form == f && (r.frm == g && r.kind == k))) ALLN
theorem rof_is (x : I11) (o : Option R7) (ho : OFS x.op x.form x.frm x.kind = o) (X : World) : Calls Try.prog 47 #[.int .u8 (x.op : Nat), .int .u8 (x.form : Nat), .int .u8 (x.frm : Nat), .int .u8 (x.kind : Nat)] X fun e w' => (∃ r n c, e = .returned (.tuple #[.agg (entV r n), .int .i64 c]) ∧ isOf o r c) ∧ Below X.heap.size X w' := by
  refine (rof_c X x.op x.form x.frm x.kind).mono ?_
  rintro e w' ⟨rfl, hb⟩
  refine ⟨?_, hb⟩
  unfold OFS at ho
  by_cases h : x.op = 0 ∨ 31 < x.op
  · rw [if_pos h] at ho
    rw [if_pos (show x.op < 1 ∨ 31 < x.op by omega)]
    subst ho
    exact ⟨_, _, _, rfl, .inl rfl⟩
  · rw [if_neg h, ← ofn_of'] at ho
    rw [if_neg (show ¬ (x.op < 1 ∨ 31 < x.op) by omega)]
    cases hO : OFN x.op x.form x.frm x.kind with
    | none => rw [hO] at ho; subst ho; exact ⟨_, _, _, rfl, .inr rfl⟩
    | some q => rw [hO] at ho; subst ho; exact ⟨_, _, _, rfl, rfl, rfl⟩
/-- the bounds of the fields -/
def inB (x : I11) : Bool := decide (x.rd < 32) && decide (x.rs1 < 32) && decide (x.rs2 < 32) && decide (x.rs3 < 32) && decide (x.rm < 8) && !(x.rm == 5) && !(x.rm == 6) && decide (-2048 ≤ x.imm) && decide (x.imm < 2048) && decide (x.csr ≤ 3)
/-- what a layout has not must be 0 -/
def zeroB (l : Nat) (x : I11) : Bool := ((HAS l).rd || x.rd == 0) && ((HAS l).rs2 || x.rs2 == 0) && ((HAS l).rs3 || x.rs3 == 0) && ((HAS l).rm || x.rm == 0) && ((HAS l).imm || x.imm == 0) && (if (HAS l).csr then x.csr != 0 else x.csr == 0)
theorem rmay_mays {l : Nat} (hl : 1 ≤ l ∧ l ≤ 9) (x : I11) : (inB x && zeroB l x) = true ↔ Mays l x := by
  obtain ⟨op, form, frm, kind, rd, rs1, rs2, rs3, rm, imm, csr⟩ := x
  unfold inB zeroB
  constructor
  · intro h
    rcases (by omega : l = 1 ∨ l = 2 ∨ l = 3 ∨ l = 4 ∨ l = 5 ∨ l = 6 ∨ l = 7 ∨ l = 8 ∨ l = 9) with rfl | rfl | rfl | rfl | rfl | rfl | rfl | rfl | rfl
    all_goals
      simp only [HAS, Bool.and_eq_true, decide_eq_true_eq, Bool.not_eq_true', beq_eq_false_iff_ne, Bool.true_or, Bool.false_or, beq_iff_eq, bne_iff_ne, true_and, and_true, if_true, if_false, Bool.false_eq_true] at h
      constructor <;> simp only [] <;> omega
  · rintro ⟨h1, h2, h3, h4, h5, h6, h7, h8, h9, h10, z1, z2, z3, z4, z5, z6, z7⟩
    simp only [] at h1 h2 h3 h4 h5 h6 h7 h8 h9 h10 z1 z2 z3 z4 z5 z6 z7
    rcases (by omega : l = 1 ∨ l = 2 ∨ l = 3 ∨ l = 4 ∨ l = 5 ∨ l = 6 ∨ l = 7 ∨ l = 8 ∨ l = 9) with rfl | rfl | rfl | rfl | rfl | rfl | rfl | rfl | rfl
    all_goals
      simp only [HAS, Bool.and_eq_true, decide_eq_true_eq, Bool.not_eq_true', beq_eq_false_iff_ne, Bool.true_or, Bool.false_or, beq_iff_eq, bne_iff_ne, true_and, and_true, if_true, if_false, Bool.false_eq_true]
      omega
end Go.Proofs.Yteelconabmfnkaa

/- abacusref25.May: out of its bounds. -/
namespace Go.Proofs.Yteelconabmfnkaa
open Go Go.RowKit
set_option maxHeartbeats 4000000
set_option maxRecDepth 100000
set_option linter.unusedVariables false
set_option linter.unusedSimpArgs false
theorem rmay_b0 (W : World) (op form frm kind rd rs1 rs2 rs3 rm : Nat) (imm : Int) (csr : Nat) (rop rform rfrm rkind rmask rmtch lay : Nat) (ho : OFS op form frm kind = some ⟨rop, rform, rfrm, rkind, rmask, rmtch, lay⟩) (hl : lay = 1 ∨ lay = 2 ∨ lay = 3 ∨ lay = 4 ∨ lay = 5 ∨ lay = 6 ∨ lay = 7 ∨ lay = 8 ∨ lay = 9) (y0 : decide (31 < (rd : Int)) = true) : Calls Try.prog 27 #[.agg (instV ⟨op, form, frm, kind, rd, rs1, rs2, rs3, rm, imm, csr⟩)] W fun e w' => e = .returned (.bool false) ∧ Below W.heap.size W w' := by
  have HF := Lib.hid (fun X => fields_c X lay hl)
  obtain ⟨h, hh⟩ : ∃ h, HAS lay = h := ⟨_, rfl⟩
  rw [hh] at HF
  clear hh hl
  have HC := Lib.hid (rof_is ⟨op, form, frm, kind, rd, rs1, rs2, rs3, rm, imm, csr⟩ (some ⟨rop, rform, rfrm, rkind, rmask, rmtch, lay⟩) ho)
  simp only [] at HC
  clear ho
  have K0 := Lib.hid (Blk.new W (instV ⟨op, form, frm, kind, rd, rs1, rs2, rs3, rm, imm, csr⟩) 27)
  have B0 := Lib.hid ((Below.refl W.heap.size W).alloc (Nat.le_refl _) (.cells (instV ⟨op, form, frm, kind, rd, rs1, rs2, rs3, rm, imm, csr⟩) 27))
  go_enter Try.func27, Try.ntmps27
  go_wp2_with (first
    | (go_at_call 47; (with_reducible refine (HC.out _).mono ?_); rintro e w1 ⟨⟨rr, nn, c, rfl, rfl, rfl⟩, b1⟩; clear HC; have n6 := (Blk.new w1 (entV ⟨rop, rform, rfrm, rkind, rmask, rmtch, lay⟩ nn) 42).cell 6; simp only [List.getElem?_toArray, List.getElem?_cons_succ, List.getElem?_cons_zero] at n6)
    | (go_at_call 59; (with_reducible refine (HF.out _).mono ?_); rintro e w2 ⟨rfl, b2⟩; clear HF; have kx := (((K0.out.call b1).alloc (.cells (entV ⟨rop, rform, rfrm, rkind, rmask, rmtch, lay⟩ nn) 42)).call b2).alloc (.cells (hasV h) 106); have c4 := kx.cell 4; simp only [List.getElem?_toArray, List.getElem?_cons_succ, List.getElem?_cons_zero] at c4))
  go_ret
  have e1 := (below_call B0.out b1).alloc (below_call B0.out b1).size (.cells (entV ⟨rop, rform, rfrm, rkind, rmask, rmtch, lay⟩ nn) 42)
  have e2 := (below_call e1 b2).alloc (below_call e1 b2).size (.cells (hasV h) 106)
  exact ⟨rfl, e2⟩
theorem rmay_b1 (W : World) (op form frm kind rd rs1 rs2 rs3 rm : Nat) (imm : Int) (csr : Nat) (rop rform rfrm rkind rmask rmtch lay : Nat) (ho : OFS op form frm kind = some ⟨rop, rform, rfrm, rkind, rmask, rmtch, lay⟩) (hl : lay = 1 ∨ lay = 2 ∨ lay = 3 ∨ lay = 4 ∨ lay = 5 ∨ lay = 6 ∨ lay = 7 ∨ lay = 8 ∨ lay = 9) (y0 : decide (31 < (rd : Int)) = false) (y1 : decide (31 < (rs1 : Int)) = true) : Calls Try.prog 27 #[.agg (instV ⟨op, form, frm, kind, rd, rs1, rs2, rs3, rm, imm, csr⟩)] W fun e w' => e = .returned (.bool false) ∧ Below W.heap.size W w' := by
  have HF := Lib.hid (fun X => fields_c X lay hl)
  obtain ⟨h, hh⟩ : ∃ h, HAS lay = h := ⟨_, rfl⟩
  rw [hh] at HF
  clear hh hl
  have HC := Lib.hid (rof_is ⟨op, form, frm, kind, rd, rs1, rs2, rs3, rm, imm, csr⟩ (some ⟨rop, rform, rfrm, rkind, rmask, rmtch, lay⟩) ho)
  simp only [] at HC
  clear ho
  have K0 := Lib.hid (Blk.new W (instV ⟨op, form, frm, kind, rd, rs1, rs2, rs3, rm, imm, csr⟩) 27)
  have B0 := Lib.hid ((Below.refl W.heap.size W).alloc (Nat.le_refl _) (.cells (instV ⟨op, form, frm, kind, rd, rs1, rs2, rs3, rm, imm, csr⟩) 27))
  go_enter Try.func27, Try.ntmps27
  go_wp2_with (first
    | (go_at_call 47; (with_reducible refine (HC.out _).mono ?_); rintro e w1 ⟨⟨rr, nn, c, rfl, rfl, rfl⟩, b1⟩; clear HC; have n6 := (Blk.new w1 (entV ⟨rop, rform, rfrm, rkind, rmask, rmtch, lay⟩ nn) 42).cell 6; simp only [List.getElem?_toArray, List.getElem?_cons_succ, List.getElem?_cons_zero] at n6)
    | (go_at_call 59; (with_reducible refine (HF.out _).mono ?_); rintro e w2 ⟨rfl, b2⟩; clear HF; have kx := (((K0.out.call b1).alloc (.cells (entV ⟨rop, rform, rfrm, rkind, rmask, rmtch, lay⟩ nn) 42)).call b2).alloc (.cells (hasV h) 106); have c4 := kx.cell 4; have c5 := kx.cell 5; simp only [List.getElem?_toArray, List.getElem?_cons_succ, List.getElem?_cons_zero] at c4 c5))
  go_ret
  have e1 := (below_call B0.out b1).alloc (below_call B0.out b1).size (.cells (entV ⟨rop, rform, rfrm, rkind, rmask, rmtch, lay⟩ nn) 42)
  have e2 := (below_call e1 b2).alloc (below_call e1 b2).size (.cells (hasV h) 106)
  exact ⟨rfl, e2⟩
theorem rmay_b2 (W : World) (op form frm kind rd rs1 rs2 rs3 rm : Nat) (imm : Int) (csr : Nat) (rop rform rfrm rkind rmask rmtch lay : Nat) (ho : OFS op form frm kind = some ⟨rop, rform, rfrm, rkind, rmask, rmtch, lay⟩) (hl : lay = 1 ∨ lay = 2 ∨ lay = 3 ∨ lay = 4 ∨ lay = 5 ∨ lay = 6 ∨ lay = 7 ∨ lay = 8 ∨ lay = 9) (y0 : decide (31 < (rd : Int)) = false) (y1 : decide (31 < (rs1 : Int)) = false) (y2 : decide (31 < (rs2 : Int)) = true) : Calls Try.prog 27 #[.agg (instV ⟨op, form, frm, kind, rd, rs1, rs2, rs3, rm, imm, csr⟩)] W fun e w' => e = .returned (.bool false) ∧ Below W.heap.size W w' := by
  have HF := Lib.hid (fun X => fields_c X lay hl)
  obtain ⟨h, hh⟩ : ∃ h, HAS lay = h := ⟨_, rfl⟩
  rw [hh] at HF
  clear hh hl
  have HC := Lib.hid (rof_is ⟨op, form, frm, kind, rd, rs1, rs2, rs3, rm, imm, csr⟩ (some ⟨rop, rform, rfrm, rkind, rmask, rmtch, lay⟩) ho)
  simp only [] at HC
  clear ho
  have K0 := Lib.hid (Blk.new W (instV ⟨op, form, frm, kind, rd, rs1, rs2, rs3, rm, imm, csr⟩) 27)
  have B0 := Lib.hid ((Below.refl W.heap.size W).alloc (Nat.le_refl _) (.cells (instV ⟨op, form, frm, kind, rd, rs1, rs2, rs3, rm, imm, csr⟩) 27))
  go_enter Try.func27, Try.ntmps27
  go_wp2_with (first
    | (go_at_call 47; (with_reducible refine (HC.out _).mono ?_); rintro e w1 ⟨⟨rr, nn, c, rfl, rfl, rfl⟩, b1⟩; clear HC; have n6 := (Blk.new w1 (entV ⟨rop, rform, rfrm, rkind, rmask, rmtch, lay⟩ nn) 42).cell 6; simp only [List.getElem?_toArray, List.getElem?_cons_succ, List.getElem?_cons_zero] at n6)
    | (go_at_call 59; (with_reducible refine (HF.out _).mono ?_); rintro e w2 ⟨rfl, b2⟩; clear HF; have kx := (((K0.out.call b1).alloc (.cells (entV ⟨rop, rform, rfrm, rkind, rmask, rmtch, lay⟩ nn) 42)).call b2).alloc (.cells (hasV h) 106); have c4 := kx.cell 4; have c5 := kx.cell 5; have c6 := kx.cell 6; simp only [List.getElem?_toArray, List.getElem?_cons_succ, List.getElem?_cons_zero] at c4 c5 c6))
  go_ret
  have e1 := (below_call B0.out b1).alloc (below_call B0.out b1).size (.cells (entV ⟨rop, rform, rfrm, rkind, rmask, rmtch, lay⟩ nn) 42)
  have e2 := (below_call e1 b2).alloc (below_call e1 b2).size (.cells (hasV h) 106)
  exact ⟨rfl, e2⟩
theorem rmay_b3 (W : World) (op form frm kind rd rs1 rs2 rs3 rm : Nat) (imm : Int) (csr : Nat) (rop rform rfrm rkind rmask rmtch lay : Nat) (ho : OFS op form frm kind = some ⟨rop, rform, rfrm, rkind, rmask, rmtch, lay⟩) (hl : lay = 1 ∨ lay = 2 ∨ lay = 3 ∨ lay = 4 ∨ lay = 5 ∨ lay = 6 ∨ lay = 7 ∨ lay = 8 ∨ lay = 9) (y0 : decide (31 < (rd : Int)) = false) (y1 : decide (31 < (rs1 : Int)) = false) (y2 : decide (31 < (rs2 : Int)) = false) (y3 : decide (31 < (rs3 : Int)) = true) : Calls Try.prog 27 #[.agg (instV ⟨op, form, frm, kind, rd, rs1, rs2, rs3, rm, imm, csr⟩)] W fun e w' => e = .returned (.bool false) ∧ Below W.heap.size W w' := by
  have HF := Lib.hid (fun X => fields_c X lay hl)
  obtain ⟨h, hh⟩ : ∃ h, HAS lay = h := ⟨_, rfl⟩
  rw [hh] at HF
  clear hh hl
  have HC := Lib.hid (rof_is ⟨op, form, frm, kind, rd, rs1, rs2, rs3, rm, imm, csr⟩ (some ⟨rop, rform, rfrm, rkind, rmask, rmtch, lay⟩) ho)
  simp only [] at HC
  clear ho
  have K0 := Lib.hid (Blk.new W (instV ⟨op, form, frm, kind, rd, rs1, rs2, rs3, rm, imm, csr⟩) 27)
  have B0 := Lib.hid ((Below.refl W.heap.size W).alloc (Nat.le_refl _) (.cells (instV ⟨op, form, frm, kind, rd, rs1, rs2, rs3, rm, imm, csr⟩) 27))
  go_enter Try.func27, Try.ntmps27
  go_wp2_with (first
    | (go_at_call 47; (with_reducible refine (HC.out _).mono ?_); rintro e w1 ⟨⟨rr, nn, c, rfl, rfl, rfl⟩, b1⟩; clear HC; have n6 := (Blk.new w1 (entV ⟨rop, rform, rfrm, rkind, rmask, rmtch, lay⟩ nn) 42).cell 6; simp only [List.getElem?_toArray, List.getElem?_cons_succ, List.getElem?_cons_zero] at n6)
    | (go_at_call 59; (with_reducible refine (HF.out _).mono ?_); rintro e w2 ⟨rfl, b2⟩; clear HF; have kx := (((K0.out.call b1).alloc (.cells (entV ⟨rop, rform, rfrm, rkind, rmask, rmtch, lay⟩ nn) 42)).call b2).alloc (.cells (hasV h) 106); have c4 := kx.cell 4; have c5 := kx.cell 5; have c6 := kx.cell 6; have c7 := kx.cell 7; simp only [List.getElem?_toArray, List.getElem?_cons_succ, List.getElem?_cons_zero] at c4 c5 c6 c7))
  go_ret
  have e1 := (below_call B0.out b1).alloc (below_call B0.out b1).size (.cells (entV ⟨rop, rform, rfrm, rkind, rmask, rmtch, lay⟩ nn) 42)
  have e2 := (below_call e1 b2).alloc (below_call e1 b2).size (.cells (hasV h) 106)
  exact ⟨rfl, e2⟩
theorem rmay_b4 (W : World) (op form frm kind rd rs1 rs2 rs3 rm : Nat) (imm : Int) (csr : Nat) (rop rform rfrm rkind rmask rmtch lay : Nat) (ho : OFS op form frm kind = some ⟨rop, rform, rfrm, rkind, rmask, rmtch, lay⟩) (hl : lay = 1 ∨ lay = 2 ∨ lay = 3 ∨ lay = 4 ∨ lay = 5 ∨ lay = 6 ∨ lay = 7 ∨ lay = 8 ∨ lay = 9) (y0 : decide (31 < (rd : Int)) = false) (y1 : decide (31 < (rs1 : Int)) = false) (y2 : decide (31 < (rs2 : Int)) = false) (y3 : decide (31 < (rs3 : Int)) = false) (y4 : decide (7 < (rm : Int)) = true) : Calls Try.prog 27 #[.agg (instV ⟨op, form, frm, kind, rd, rs1, rs2, rs3, rm, imm, csr⟩)] W fun e w' => e = .returned (.bool false) ∧ Below W.heap.size W w' := by
  have HF := Lib.hid (fun X => fields_c X lay hl)
  obtain ⟨h, hh⟩ : ∃ h, HAS lay = h := ⟨_, rfl⟩
  rw [hh] at HF
  clear hh hl
  have HC := Lib.hid (rof_is ⟨op, form, frm, kind, rd, rs1, rs2, rs3, rm, imm, csr⟩ (some ⟨rop, rform, rfrm, rkind, rmask, rmtch, lay⟩) ho)
  simp only [] at HC
  clear ho
  have K0 := Lib.hid (Blk.new W (instV ⟨op, form, frm, kind, rd, rs1, rs2, rs3, rm, imm, csr⟩) 27)
  have B0 := Lib.hid ((Below.refl W.heap.size W).alloc (Nat.le_refl _) (.cells (instV ⟨op, form, frm, kind, rd, rs1, rs2, rs3, rm, imm, csr⟩) 27))
  go_enter Try.func27, Try.ntmps27
  go_wp2_with (first
    | (go_at_call 47; (with_reducible refine (HC.out _).mono ?_); rintro e w1 ⟨⟨rr, nn, c, rfl, rfl, rfl⟩, b1⟩; clear HC; have n6 := (Blk.new w1 (entV ⟨rop, rform, rfrm, rkind, rmask, rmtch, lay⟩ nn) 42).cell 6; simp only [List.getElem?_toArray, List.getElem?_cons_succ, List.getElem?_cons_zero] at n6)
    | (go_at_call 59; (with_reducible refine (HF.out _).mono ?_); rintro e w2 ⟨rfl, b2⟩; clear HF; have kx := (((K0.out.call b1).alloc (.cells (entV ⟨rop, rform, rfrm, rkind, rmask, rmtch, lay⟩ nn) 42)).call b2).alloc (.cells (hasV h) 106); have c4 := kx.cell 4; have c5 := kx.cell 5; have c6 := kx.cell 6; have c7 := kx.cell 7; have c8 := kx.cell 8; simp only [List.getElem?_toArray, List.getElem?_cons_succ, List.getElem?_cons_zero] at c4 c5 c6 c7 c8))
  go_ret
  have e1 := (below_call B0.out b1).alloc (below_call B0.out b1).size (.cells (entV ⟨rop, rform, rfrm, rkind, rmask, rmtch, lay⟩ nn) 42)
  have e2 := (below_call e1 b2).alloc (below_call e1 b2).size (.cells (hasV h) 106)
  exact ⟨rfl, e2⟩
theorem rmay_b5 (W : World) (op form frm kind rd rs1 rs2 rs3 rm : Nat) (imm : Int) (csr : Nat) (rop rform rfrm rkind rmask rmtch lay : Nat) (ho : OFS op form frm kind = some ⟨rop, rform, rfrm, rkind, rmask, rmtch, lay⟩) (hl : lay = 1 ∨ lay = 2 ∨ lay = 3 ∨ lay = 4 ∨ lay = 5 ∨ lay = 6 ∨ lay = 7 ∨ lay = 8 ∨ lay = 9) (y0 : decide (31 < (rd : Int)) = false) (y1 : decide (31 < (rs1 : Int)) = false) (y2 : decide (31 < (rs2 : Int)) = false) (y3 : decide (31 < (rs3 : Int)) = false) (y4 : decide (7 < (rm : Int)) = false) (y5 : ((rm : Int) == 5) = true) : Calls Try.prog 27 #[.agg (instV ⟨op, form, frm, kind, rd, rs1, rs2, rs3, rm, imm, csr⟩)] W fun e w' => e = .returned (.bool false) ∧ Below W.heap.size W w' := by
  have HF := Lib.hid (fun X => fields_c X lay hl)
  obtain ⟨h, hh⟩ : ∃ h, HAS lay = h := ⟨_, rfl⟩
  rw [hh] at HF
  clear hh hl
  have HC := Lib.hid (rof_is ⟨op, form, frm, kind, rd, rs1, rs2, rs3, rm, imm, csr⟩ (some ⟨rop, rform, rfrm, rkind, rmask, rmtch, lay⟩) ho)
  simp only [] at HC
  clear ho
  have K0 := Lib.hid (Blk.new W (instV ⟨op, form, frm, kind, rd, rs1, rs2, rs3, rm, imm, csr⟩) 27)
  have B0 := Lib.hid ((Below.refl W.heap.size W).alloc (Nat.le_refl _) (.cells (instV ⟨op, form, frm, kind, rd, rs1, rs2, rs3, rm, imm, csr⟩) 27))
  go_enter Try.func27, Try.ntmps27
  go_wp2_with (first
    | (go_at_call 47; (with_reducible refine (HC.out _).mono ?_); rintro e w1 ⟨⟨rr, nn, c, rfl, rfl, rfl⟩, b1⟩; clear HC; have n6 := (Blk.new w1 (entV ⟨rop, rform, rfrm, rkind, rmask, rmtch, lay⟩ nn) 42).cell 6; simp only [List.getElem?_toArray, List.getElem?_cons_succ, List.getElem?_cons_zero] at n6)
    | (go_at_call 59; (with_reducible refine (HF.out _).mono ?_); rintro e w2 ⟨rfl, b2⟩; clear HF; have kx := (((K0.out.call b1).alloc (.cells (entV ⟨rop, rform, rfrm, rkind, rmask, rmtch, lay⟩ nn) 42)).call b2).alloc (.cells (hasV h) 106); have c4 := kx.cell 4; have c5 := kx.cell 5; have c6 := kx.cell 6; have c7 := kx.cell 7; have c8 := kx.cell 8; simp only [List.getElem?_toArray, List.getElem?_cons_succ, List.getElem?_cons_zero] at c4 c5 c6 c7 c8))
  go_ret
  have e1 := (below_call B0.out b1).alloc (below_call B0.out b1).size (.cells (entV ⟨rop, rform, rfrm, rkind, rmask, rmtch, lay⟩ nn) 42)
  have e2 := (below_call e1 b2).alloc (below_call e1 b2).size (.cells (hasV h) 106)
  exact ⟨rfl, e2⟩
theorem rmay_b6 (W : World) (op form frm kind rd rs1 rs2 rs3 rm : Nat) (imm : Int) (csr : Nat) (rop rform rfrm rkind rmask rmtch lay : Nat) (ho : OFS op form frm kind = some ⟨rop, rform, rfrm, rkind, rmask, rmtch, lay⟩) (hl : lay = 1 ∨ lay = 2 ∨ lay = 3 ∨ lay = 4 ∨ lay = 5 ∨ lay = 6 ∨ lay = 7 ∨ lay = 8 ∨ lay = 9) (y0 : decide (31 < (rd : Int)) = false) (y1 : decide (31 < (rs1 : Int)) = false) (y2 : decide (31 < (rs2 : Int)) = false) (y3 : decide (31 < (rs3 : Int)) = false) (y4 : decide (7 < (rm : Int)) = false) (y5 : ((rm : Int) == 5) = false) (y6 : ((rm : Int) == 6) = true) : Calls Try.prog 27 #[.agg (instV ⟨op, form, frm, kind, rd, rs1, rs2, rs3, rm, imm, csr⟩)] W fun e w' => e = .returned (.bool false) ∧ Below W.heap.size W w' := by
  have HF := Lib.hid (fun X => fields_c X lay hl)
  obtain ⟨h, hh⟩ : ∃ h, HAS lay = h := ⟨_, rfl⟩
  rw [hh] at HF
  clear hh hl
  have HC := Lib.hid (rof_is ⟨op, form, frm, kind, rd, rs1, rs2, rs3, rm, imm, csr⟩ (some ⟨rop, rform, rfrm, rkind, rmask, rmtch, lay⟩) ho)
  simp only [] at HC
  clear ho
  have K0 := Lib.hid (Blk.new W (instV ⟨op, form, frm, kind, rd, rs1, rs2, rs3, rm, imm, csr⟩) 27)
  have B0 := Lib.hid ((Below.refl W.heap.size W).alloc (Nat.le_refl _) (.cells (instV ⟨op, form, frm, kind, rd, rs1, rs2, rs3, rm, imm, csr⟩) 27))
  go_enter Try.func27, Try.ntmps27
  go_wp2_with (first
    | (go_at_call 47; (with_reducible refine (HC.out _).mono ?_); rintro e w1 ⟨⟨rr, nn, c, rfl, rfl, rfl⟩, b1⟩; clear HC; have n6 := (Blk.new w1 (entV ⟨rop, rform, rfrm, rkind, rmask, rmtch, lay⟩ nn) 42).cell 6; simp only [List.getElem?_toArray, List.getElem?_cons_succ, List.getElem?_cons_zero] at n6)
    | (go_at_call 59; (with_reducible refine (HF.out _).mono ?_); rintro e w2 ⟨rfl, b2⟩; clear HF; have kx := (((K0.out.call b1).alloc (.cells (entV ⟨rop, rform, rfrm, rkind, rmask, rmtch, lay⟩ nn) 42)).call b2).alloc (.cells (hasV h) 106); have c4 := kx.cell 4; have c5 := kx.cell 5; have c6 := kx.cell 6; have c7 := kx.cell 7; have c8 := kx.cell 8; simp only [List.getElem?_toArray, List.getElem?_cons_succ, List.getElem?_cons_zero] at c4 c5 c6 c7 c8))
  go_ret
  have e1 := (below_call B0.out b1).alloc (below_call B0.out b1).size (.cells (entV ⟨rop, rform, rfrm, rkind, rmask, rmtch, lay⟩ nn) 42)
  have e2 := (below_call e1 b2).alloc (below_call e1 b2).size (.cells (hasV h) 106)
  exact ⟨rfl, e2⟩
theorem rmay_b7 (W : World) (op form frm kind rd rs1 rs2 rs3 rm : Nat) (imm : Int) (csr : Nat) (rop rform rfrm rkind rmask rmtch lay : Nat) (ho : OFS op form frm kind = some ⟨rop, rform, rfrm, rkind, rmask, rmtch, lay⟩) (hl : lay = 1 ∨ lay = 2 ∨ lay = 3 ∨ lay = 4 ∨ lay = 5 ∨ lay = 6 ∨ lay = 7 ∨ lay = 8 ∨ lay = 9) (y0 : decide (31 < (rd : Int)) = false) (y1 : decide (31 < (rs1 : Int)) = false) (y2 : decide (31 < (rs2 : Int)) = false) (y3 : decide (31 < (rs3 : Int)) = false) (y4 : decide (7 < (rm : Int)) = false) (y5 : ((rm : Int) == 5) = false) (y6 : ((rm : Int) == 6) = false) (y7 : decide (imm < -2048) = true) : Calls Try.prog 27 #[.agg (instV ⟨op, form, frm, kind, rd, rs1, rs2, rs3, rm, imm, csr⟩)] W fun e w' => e = .returned (.bool false) ∧ Below W.heap.size W w' := by
  have HF := Lib.hid (fun X => fields_c X lay hl)
  obtain ⟨h, hh⟩ : ∃ h, HAS lay = h := ⟨_, rfl⟩
  rw [hh] at HF
  clear hh hl
  have HC := Lib.hid (rof_is ⟨op, form, frm, kind, rd, rs1, rs2, rs3, rm, imm, csr⟩ (some ⟨rop, rform, rfrm, rkind, rmask, rmtch, lay⟩) ho)
  simp only [] at HC
  clear ho
  have K0 := Lib.hid (Blk.new W (instV ⟨op, form, frm, kind, rd, rs1, rs2, rs3, rm, imm, csr⟩) 27)
  have B0 := Lib.hid ((Below.refl W.heap.size W).alloc (Nat.le_refl _) (.cells (instV ⟨op, form, frm, kind, rd, rs1, rs2, rs3, rm, imm, csr⟩) 27))
  go_enter Try.func27, Try.ntmps27
  go_wp2_with (first
    | (go_at_call 47; (with_reducible refine (HC.out _).mono ?_); rintro e w1 ⟨⟨rr, nn, c, rfl, rfl, rfl⟩, b1⟩; clear HC; have n6 := (Blk.new w1 (entV ⟨rop, rform, rfrm, rkind, rmask, rmtch, lay⟩ nn) 42).cell 6; simp only [List.getElem?_toArray, List.getElem?_cons_succ, List.getElem?_cons_zero] at n6)
    | (go_at_call 59; (with_reducible refine (HF.out _).mono ?_); rintro e w2 ⟨rfl, b2⟩; clear HF; have kx := (((K0.out.call b1).alloc (.cells (entV ⟨rop, rform, rfrm, rkind, rmask, rmtch, lay⟩ nn) 42)).call b2).alloc (.cells (hasV h) 106); have c4 := kx.cell 4; have c5 := kx.cell 5; have c6 := kx.cell 6; have c7 := kx.cell 7; have c8 := kx.cell 8; have c9 := kx.cell 9; simp only [List.getElem?_toArray, List.getElem?_cons_succ, List.getElem?_cons_zero] at c4 c5 c6 c7 c8 c9))
  go_ret
  have e1 := (below_call B0.out b1).alloc (below_call B0.out b1).size (.cells (entV ⟨rop, rform, rfrm, rkind, rmask, rmtch, lay⟩ nn) 42)
  have e2 := (below_call e1 b2).alloc (below_call e1 b2).size (.cells (hasV h) 106)
  exact ⟨rfl, e2⟩
theorem rmay_b8 (W : World) (op form frm kind rd rs1 rs2 rs3 rm : Nat) (imm : Int) (csr : Nat) (rop rform rfrm rkind rmask rmtch lay : Nat) (ho : OFS op form frm kind = some ⟨rop, rform, rfrm, rkind, rmask, rmtch, lay⟩) (hl : lay = 1 ∨ lay = 2 ∨ lay = 3 ∨ lay = 4 ∨ lay = 5 ∨ lay = 6 ∨ lay = 7 ∨ lay = 8 ∨ lay = 9) (y0 : decide (31 < (rd : Int)) = false) (y1 : decide (31 < (rs1 : Int)) = false) (y2 : decide (31 < (rs2 : Int)) = false) (y3 : decide (31 < (rs3 : Int)) = false) (y4 : decide (7 < (rm : Int)) = false) (y5 : ((rm : Int) == 5) = false) (y6 : ((rm : Int) == 6) = false) (y7 : decide (imm < -2048) = false) (y8 : decide (2047 < imm) = true) : Calls Try.prog 27 #[.agg (instV ⟨op, form, frm, kind, rd, rs1, rs2, rs3, rm, imm, csr⟩)] W fun e w' => e = .returned (.bool false) ∧ Below W.heap.size W w' := by
  have HF := Lib.hid (fun X => fields_c X lay hl)
  obtain ⟨h, hh⟩ : ∃ h, HAS lay = h := ⟨_, rfl⟩
  rw [hh] at HF
  clear hh hl
  have HC := Lib.hid (rof_is ⟨op, form, frm, kind, rd, rs1, rs2, rs3, rm, imm, csr⟩ (some ⟨rop, rform, rfrm, rkind, rmask, rmtch, lay⟩) ho)
  simp only [] at HC
  clear ho
  have K0 := Lib.hid (Blk.new W (instV ⟨op, form, frm, kind, rd, rs1, rs2, rs3, rm, imm, csr⟩) 27)
  have B0 := Lib.hid ((Below.refl W.heap.size W).alloc (Nat.le_refl _) (.cells (instV ⟨op, form, frm, kind, rd, rs1, rs2, rs3, rm, imm, csr⟩) 27))
  go_enter Try.func27, Try.ntmps27
  go_wp2_with (first
    | (go_at_call 47; (with_reducible refine (HC.out _).mono ?_); rintro e w1 ⟨⟨rr, nn, c, rfl, rfl, rfl⟩, b1⟩; clear HC; have n6 := (Blk.new w1 (entV ⟨rop, rform, rfrm, rkind, rmask, rmtch, lay⟩ nn) 42).cell 6; simp only [List.getElem?_toArray, List.getElem?_cons_succ, List.getElem?_cons_zero] at n6)
    | (go_at_call 59; (with_reducible refine (HF.out _).mono ?_); rintro e w2 ⟨rfl, b2⟩; clear HF; have kx := (((K0.out.call b1).alloc (.cells (entV ⟨rop, rform, rfrm, rkind, rmask, rmtch, lay⟩ nn) 42)).call b2).alloc (.cells (hasV h) 106); have c4 := kx.cell 4; have c5 := kx.cell 5; have c6 := kx.cell 6; have c7 := kx.cell 7; have c8 := kx.cell 8; have c9 := kx.cell 9; simp only [List.getElem?_toArray, List.getElem?_cons_succ, List.getElem?_cons_zero] at c4 c5 c6 c7 c8 c9))
  go_ret
  have e1 := (below_call B0.out b1).alloc (below_call B0.out b1).size (.cells (entV ⟨rop, rform, rfrm, rkind, rmask, rmtch, lay⟩ nn) 42)
  have e2 := (below_call e1 b2).alloc (below_call e1 b2).size (.cells (hasV h) 106)
  exact ⟨rfl, e2⟩
theorem rmay_b9 (W : World) (op form frm kind rd rs1 rs2 rs3 rm : Nat) (imm : Int) (csr : Nat) (rop rform rfrm rkind rmask rmtch lay : Nat) (ho : OFS op form frm kind = some ⟨rop, rform, rfrm, rkind, rmask, rmtch, lay⟩) (hl : lay = 1 ∨ lay = 2 ∨ lay = 3 ∨ lay = 4 ∨ lay = 5 ∨ lay = 6 ∨ lay = 7 ∨ lay = 8 ∨ lay = 9) (y0 : decide (31 < (rd : Int)) = false) (y1 : decide (31 < (rs1 : Int)) = false) (y2 : decide (31 < (rs2 : Int)) = false) (y3 : decide (31 < (rs3 : Int)) = false) (y4 : decide (7 < (rm : Int)) = false) (y5 : ((rm : Int) == 5) = false) (y6 : ((rm : Int) == 6) = false) (y7 : decide (imm < -2048) = false) (y8 : decide (2047 < imm) = false) (y9 : decide (3 < (csr : Int)) = true) : Calls Try.prog 27 #[.agg (instV ⟨op, form, frm, kind, rd, rs1, rs2, rs3, rm, imm, csr⟩)] W fun e w' => e = .returned (.bool false) ∧ Below W.heap.size W w' := by
  have HF := Lib.hid (fun X => fields_c X lay hl)
  obtain ⟨h, hh⟩ : ∃ h, HAS lay = h := ⟨_, rfl⟩
  rw [hh] at HF
  clear hh hl
  have HC := Lib.hid (rof_is ⟨op, form, frm, kind, rd, rs1, rs2, rs3, rm, imm, csr⟩ (some ⟨rop, rform, rfrm, rkind, rmask, rmtch, lay⟩) ho)
  simp only [] at HC
  clear ho
  have K0 := Lib.hid (Blk.new W (instV ⟨op, form, frm, kind, rd, rs1, rs2, rs3, rm, imm, csr⟩) 27)
  have B0 := Lib.hid ((Below.refl W.heap.size W).alloc (Nat.le_refl _) (.cells (instV ⟨op, form, frm, kind, rd, rs1, rs2, rs3, rm, imm, csr⟩) 27))
  go_enter Try.func27, Try.ntmps27
  go_wp2_with (first
    | (go_at_call 47; (with_reducible refine (HC.out _).mono ?_); rintro e w1 ⟨⟨rr, nn, c, rfl, rfl, rfl⟩, b1⟩; clear HC; have n6 := (Blk.new w1 (entV ⟨rop, rform, rfrm, rkind, rmask, rmtch, lay⟩ nn) 42).cell 6; simp only [List.getElem?_toArray, List.getElem?_cons_succ, List.getElem?_cons_zero] at n6)
    | (go_at_call 59; (with_reducible refine (HF.out _).mono ?_); rintro e w2 ⟨rfl, b2⟩; clear HF; have kx := (((K0.out.call b1).alloc (.cells (entV ⟨rop, rform, rfrm, rkind, rmask, rmtch, lay⟩ nn) 42)).call b2).alloc (.cells (hasV h) 106); have c4 := kx.cell 4; have c5 := kx.cell 5; have c6 := kx.cell 6; have c7 := kx.cell 7; have c8 := kx.cell 8; have c9 := kx.cell 9; have c10 := kx.cell 10; simp only [List.getElem?_toArray, List.getElem?_cons_succ, List.getElem?_cons_zero] at c4 c5 c6 c7 c8 c9 c10))
  go_ret
  have e1 := (below_call B0.out b1).alloc (below_call B0.out b1).size (.cells (entV ⟨rop, rform, rfrm, rkind, rmask, rmtch, lay⟩ nn) 42)
  have e2 := (below_call e1 b2).alloc (below_call e1 b2).size (.cells (hasV h) 106)
  exact ⟨rfl, e2⟩
end Go.Proofs.Yteelconabmfnkaa

/- abacusref25.May: by the layout. -/
namespace Go.Proofs.Yteelconabmfnkaa
open Go Go.RowKit
set_option maxHeartbeats 4000000
set_option maxRecDepth 100000
set_option linter.unusedVariables false
set_option linter.unusedSimpArgs false
theorem rmay_1_0 (W : World) (op form frm kind rd rs1 rs2 rs3 rm : Nat) (imm : Int) (csr : Nat) (rop rform rfrm rkind rmask rmtch : Nat) (ho : OFS op form frm kind = some ⟨rop, rform, rfrm, rkind, rmask, rmtch, 1⟩) (y0 : decide (31 < (rd : Int)) = false) (y1 : decide (31 < (rs1 : Int)) = false) (y2 : decide (31 < (rs2 : Int)) = false) (y3 : decide (31 < (rs3 : Int)) = false) (y4 : decide (7 < (rm : Int)) = false) (y5 : ((rm : Int) == 5) = false) (y6 : ((rm : Int) == 6) = false) (y7 : decide (imm < -2048) = false) (y8 : decide (2047 < imm) = false) (y9 : decide (3 < (csr : Int)) = false) (z0 : ((rs2 : Int) != 0) = true) : Calls Try.prog 27 #[.agg (instV ⟨op, form, frm, kind, rd, rs1, rs2, rs3, rm, imm, csr⟩)] W fun e w' => e = .returned (.bool false) ∧ Below W.heap.size W w' := by
  have HF : Hid (∀ X, Calls Try.prog 59 #[.int .u8 1] X fun e w' => e = .returned (.agg (hasV ⟨true, false, false, false, true, false⟩)) ∧ Below X.heap.size X w') := Lib.hid (fun X => fields_c X 1 (by decide))
  have HC := Lib.hid (rof_is ⟨op, form, frm, kind, rd, rs1, rs2, rs3, rm, imm, csr⟩ (some ⟨rop, rform, rfrm, rkind, rmask, rmtch, 1⟩) ho)
  simp only [] at HC
  clear ho
  have K0 := Lib.hid (Blk.new W (instV ⟨op, form, frm, kind, rd, rs1, rs2, rs3, rm, imm, csr⟩) 27)
  have B0 := Lib.hid ((Below.refl W.heap.size W).alloc (Nat.le_refl _) (.cells (instV ⟨op, form, frm, kind, rd, rs1, rs2, rs3, rm, imm, csr⟩) 27))
  go_enter Try.func27, Try.ntmps27
  go_wp2_with (first
    | (go_at_call 47; (with_reducible refine (HC.out _).mono ?_); rintro e w1 ⟨⟨rr, nn, c, rfl, rfl, rfl⟩, b1⟩; clear HC; have n6 := (Blk.new w1 (entV ⟨rop, rform, rfrm, rkind, rmask, rmtch, 1⟩ nn) 42).cell 6; simp only [List.getElem?_toArray, List.getElem?_cons_succ, List.getElem?_cons_zero] at n6)
    | (go_at_call 59; (with_reducible refine (HF.out _).mono ?_); rintro e w2 ⟨rfl, b2⟩; clear HF; have kx := (((K0.out.call b1).alloc (.cells (entV ⟨rop, rform, rfrm, rkind, rmask, rmtch, 1⟩ nn) 42)).call b2).alloc (.cells (hasV ⟨true, false, false, false, true, false⟩) 106); have c4 := kx.cell 4; have c5 := kx.cell 5; have c6 := kx.cell 6; have c7 := kx.cell 7; have c8 := kx.cell 8; have c9 := kx.cell 9; have c10 := kx.cell 10; have kh := Blk.new w2 (hasV ⟨true, false, false, false, true, false⟩) 106; have h0 := kh.cell 0; have h1 := kh.cell 1; have h2 := kh.cell 2; have h3 := kh.cell 3; have h4 := kh.cell 4; have h5 := kh.cell 5; simp only [List.getElem?_toArray, List.getElem?_cons_succ, List.getElem?_cons_zero] at c4 c5 c6 c7 c8 c9 c10 h0 h1 h2 h3 h4 h5))
  go_ret
  have e1 := (below_call B0.out b1).alloc (below_call B0.out b1).size (.cells (entV ⟨rop, rform, rfrm, rkind, rmask, rmtch, 1⟩ nn) 42)
  have e2 := (below_call e1 b2).alloc (below_call e1 b2).size (.cells (hasV ⟨true, false, false, false, true, false⟩) 106)
  exact ⟨rfl, e2⟩
theorem rmay_1_1 (W : World) (op form frm kind rd rs1 rs2 rs3 rm : Nat) (imm : Int) (csr : Nat) (rop rform rfrm rkind rmask rmtch : Nat) (ho : OFS op form frm kind = some ⟨rop, rform, rfrm, rkind, rmask, rmtch, 1⟩) (y0 : decide (31 < (rd : Int)) = false) (y1 : decide (31 < (rs1 : Int)) = false) (y2 : decide (31 < (rs2 : Int)) = false) (y3 : decide (31 < (rs3 : Int)) = false) (y4 : decide (7 < (rm : Int)) = false) (y5 : ((rm : Int) == 5) = false) (y6 : ((rm : Int) == 6) = false) (y7 : decide (imm < -2048) = false) (y8 : decide (2047 < imm) = false) (y9 : decide (3 < (csr : Int)) = false) (z0 : ((rs2 : Int) != 0) = false) (z1 : ((rs3 : Int) != 0) = true) : Calls Try.prog 27 #[.agg (instV ⟨op, form, frm, kind, rd, rs1, rs2, rs3, rm, imm, csr⟩)] W fun e w' => e = .returned (.bool false) ∧ Below W.heap.size W w' := by
  have HF : Hid (∀ X, Calls Try.prog 59 #[.int .u8 1] X fun e w' => e = .returned (.agg (hasV ⟨true, false, false, false, true, false⟩)) ∧ Below X.heap.size X w') := Lib.hid (fun X => fields_c X 1 (by decide))
  have HC := Lib.hid (rof_is ⟨op, form, frm, kind, rd, rs1, rs2, rs3, rm, imm, csr⟩ (some ⟨rop, rform, rfrm, rkind, rmask, rmtch, 1⟩) ho)
  simp only [] at HC
  clear ho
  have K0 := Lib.hid (Blk.new W (instV ⟨op, form, frm, kind, rd, rs1, rs2, rs3, rm, imm, csr⟩) 27)
  have B0 := Lib.hid ((Below.refl W.heap.size W).alloc (Nat.le_refl _) (.cells (instV ⟨op, form, frm, kind, rd, rs1, rs2, rs3, rm, imm, csr⟩) 27))
  go_enter Try.func27, Try.ntmps27
  go_wp2_with (first
    | (go_at_call 47; (with_reducible refine (HC.out _).mono ?_); rintro e w1 ⟨⟨rr, nn, c, rfl, rfl, rfl⟩, b1⟩; clear HC; have n6 := (Blk.new w1 (entV ⟨rop, rform, rfrm, rkind, rmask, rmtch, 1⟩ nn) 42).cell 6; simp only [List.getElem?_toArray, List.getElem?_cons_succ, List.getElem?_cons_zero] at n6)
    | (go_at_call 59; (with_reducible refine (HF.out _).mono ?_); rintro e w2 ⟨rfl, b2⟩; clear HF; have kx := (((K0.out.call b1).alloc (.cells (entV ⟨rop, rform, rfrm, rkind, rmask, rmtch, 1⟩ nn) 42)).call b2).alloc (.cells (hasV ⟨true, false, false, false, true, false⟩) 106); have c4 := kx.cell 4; have c5 := kx.cell 5; have c6 := kx.cell 6; have c7 := kx.cell 7; have c8 := kx.cell 8; have c9 := kx.cell 9; have c10 := kx.cell 10; have kh := Blk.new w2 (hasV ⟨true, false, false, false, true, false⟩) 106; have h0 := kh.cell 0; have h1 := kh.cell 1; have h2 := kh.cell 2; have h3 := kh.cell 3; have h4 := kh.cell 4; have h5 := kh.cell 5; simp only [List.getElem?_toArray, List.getElem?_cons_succ, List.getElem?_cons_zero] at c4 c5 c6 c7 c8 c9 c10 h0 h1 h2 h3 h4 h5))
  go_ret
  have e1 := (below_call B0.out b1).alloc (below_call B0.out b1).size (.cells (entV ⟨rop, rform, rfrm, rkind, rmask, rmtch, 1⟩ nn) 42)
  have e2 := (below_call e1 b2).alloc (below_call e1 b2).size (.cells (hasV ⟨true, false, false, false, true, false⟩) 106)
  exact ⟨rfl, e2⟩
theorem rmay_1_2 (W : World) (op form frm kind rd rs1 rs2 rs3 rm : Nat) (imm : Int) (csr : Nat) (rop rform rfrm rkind rmask rmtch : Nat) (ho : OFS op form frm kind = some ⟨rop, rform, rfrm, rkind, rmask, rmtch, 1⟩) (y0 : decide (31 < (rd : Int)) = false) (y1 : decide (31 < (rs1 : Int)) = false) (y2 : decide (31 < (rs2 : Int)) = false) (y3 : decide (31 < (rs3 : Int)) = false) (y4 : decide (7 < (rm : Int)) = false) (y5 : ((rm : Int) == 5) = false) (y6 : ((rm : Int) == 6) = false) (y7 : decide (imm < -2048) = false) (y8 : decide (2047 < imm) = false) (y9 : decide (3 < (csr : Int)) = false) (z0 : ((rs2 : Int) != 0) = false) (z1 : ((rs3 : Int) != 0) = false) (z2 : ((rm : Int) != 0) = true) : Calls Try.prog 27 #[.agg (instV ⟨op, form, frm, kind, rd, rs1, rs2, rs3, rm, imm, csr⟩)] W fun e w' => e = .returned (.bool false) ∧ Below W.heap.size W w' := by
  have HF : Hid (∀ X, Calls Try.prog 59 #[.int .u8 1] X fun e w' => e = .returned (.agg (hasV ⟨true, false, false, false, true, false⟩)) ∧ Below X.heap.size X w') := Lib.hid (fun X => fields_c X 1 (by decide))
  have HC := Lib.hid (rof_is ⟨op, form, frm, kind, rd, rs1, rs2, rs3, rm, imm, csr⟩ (some ⟨rop, rform, rfrm, rkind, rmask, rmtch, 1⟩) ho)
  simp only [] at HC
  clear ho
  have K0 := Lib.hid (Blk.new W (instV ⟨op, form, frm, kind, rd, rs1, rs2, rs3, rm, imm, csr⟩) 27)
  have B0 := Lib.hid ((Below.refl W.heap.size W).alloc (Nat.le_refl _) (.cells (instV ⟨op, form, frm, kind, rd, rs1, rs2, rs3, rm, imm, csr⟩) 27))
  go_enter Try.func27, Try.ntmps27
  go_wp2_with (first
    | (go_at_call 47; (with_reducible refine (HC.out _).mono ?_); rintro e w1 ⟨⟨rr, nn, c, rfl, rfl, rfl⟩, b1⟩; clear HC; have n6 := (Blk.new w1 (entV ⟨rop, rform, rfrm, rkind, rmask, rmtch, 1⟩ nn) 42).cell 6; simp only [List.getElem?_toArray, List.getElem?_cons_succ, List.getElem?_cons_zero] at n6)
    | (go_at_call 59; (with_reducible refine (HF.out _).mono ?_); rintro e w2 ⟨rfl, b2⟩; clear HF; have kx := (((K0.out.call b1).alloc (.cells (entV ⟨rop, rform, rfrm, rkind, rmask, rmtch, 1⟩ nn) 42)).call b2).alloc (.cells (hasV ⟨true, false, false, false, true, false⟩) 106); have c4 := kx.cell 4; have c5 := kx.cell 5; have c6 := kx.cell 6; have c7 := kx.cell 7; have c8 := kx.cell 8; have c9 := kx.cell 9; have c10 := kx.cell 10; have kh := Blk.new w2 (hasV ⟨true, false, false, false, true, false⟩) 106; have h0 := kh.cell 0; have h1 := kh.cell 1; have h2 := kh.cell 2; have h3 := kh.cell 3; have h4 := kh.cell 4; have h5 := kh.cell 5; simp only [List.getElem?_toArray, List.getElem?_cons_succ, List.getElem?_cons_zero] at c4 c5 c6 c7 c8 c9 c10 h0 h1 h2 h3 h4 h5))
  go_ret
  have e1 := (below_call B0.out b1).alloc (below_call B0.out b1).size (.cells (entV ⟨rop, rform, rfrm, rkind, rmask, rmtch, 1⟩ nn) 42)
  have e2 := (below_call e1 b2).alloc (below_call e1 b2).size (.cells (hasV ⟨true, false, false, false, true, false⟩) 106)
  exact ⟨rfl, e2⟩
theorem rmay_1_ok (W : World) (op form frm kind rd rs1 rs2 rs3 rm : Nat) (imm : Int) (csr : Nat) (rop rform rfrm rkind rmask rmtch : Nat) (ho : OFS op form frm kind = some ⟨rop, rform, rfrm, rkind, rmask, rmtch, 1⟩) (y0 : decide (31 < (rd : Int)) = false) (y1 : decide (31 < (rs1 : Int)) = false) (y2 : decide (31 < (rs2 : Int)) = false) (y3 : decide (31 < (rs3 : Int)) = false) (y4 : decide (7 < (rm : Int)) = false) (y5 : ((rm : Int) == 5) = false) (y6 : ((rm : Int) == 6) = false) (y7 : decide (imm < -2048) = false) (y8 : decide (2047 < imm) = false) (y9 : decide (3 < (csr : Int)) = false) (z0 : ((rs2 : Int) != 0) = false) (z1 : ((rs3 : Int) != 0) = false) (z2 : ((rm : Int) != 0) = false) (b : Bool) (zc : ((csr : Int) != 0) = b) : Calls Try.prog 27 #[.agg (instV ⟨op, form, frm, kind, rd, rs1, rs2, rs3, rm, imm, csr⟩)] W fun e w' => e = .returned (.bool (false == b)) ∧ Below W.heap.size W w' := by
  have HF : Hid (∀ X, Calls Try.prog 59 #[.int .u8 1] X fun e w' => e = .returned (.agg (hasV ⟨true, false, false, false, true, false⟩)) ∧ Below X.heap.size X w') := Lib.hid (fun X => fields_c X 1 (by decide))
  have HC := Lib.hid (rof_is ⟨op, form, frm, kind, rd, rs1, rs2, rs3, rm, imm, csr⟩ (some ⟨rop, rform, rfrm, rkind, rmask, rmtch, 1⟩) ho)
  simp only [] at HC
  clear ho
  have K0 := Lib.hid (Blk.new W (instV ⟨op, form, frm, kind, rd, rs1, rs2, rs3, rm, imm, csr⟩) 27)
  have B0 := Lib.hid ((Below.refl W.heap.size W).alloc (Nat.le_refl _) (.cells (instV ⟨op, form, frm, kind, rd, rs1, rs2, rs3, rm, imm, csr⟩) 27))
  cases b
  all_goals
    go_enter Try.func27, Try.ntmps27
    go_wp2_with (first
      | (go_at_call 47; (with_reducible refine (HC.out _).mono ?_); rintro e w1 ⟨⟨rr, nn, c, rfl, rfl, rfl⟩, b1⟩; clear HC; have n6 := (Blk.new w1 (entV ⟨rop, rform, rfrm, rkind, rmask, rmtch, 1⟩ nn) 42).cell 6; simp only [List.getElem?_toArray, List.getElem?_cons_succ, List.getElem?_cons_zero] at n6)
      | (go_at_call 59; (with_reducible refine (HF.out _).mono ?_); rintro e w2 ⟨rfl, b2⟩; clear HF; have kx := (((K0.out.call b1).alloc (.cells (entV ⟨rop, rform, rfrm, rkind, rmask, rmtch, 1⟩ nn) 42)).call b2).alloc (.cells (hasV ⟨true, false, false, false, true, false⟩) 106); have c4 := kx.cell 4; have c5 := kx.cell 5; have c6 := kx.cell 6; have c7 := kx.cell 7; have c8 := kx.cell 8; have c9 := kx.cell 9; have c10 := kx.cell 10; have kh := Blk.new w2 (hasV ⟨true, false, false, false, true, false⟩) 106; have h0 := kh.cell 0; have h1 := kh.cell 1; have h2 := kh.cell 2; have h3 := kh.cell 3; have h4 := kh.cell 4; have h5 := kh.cell 5; simp only [List.getElem?_toArray, List.getElem?_cons_succ, List.getElem?_cons_zero] at c4 c5 c6 c7 c8 c9 c10 h0 h1 h2 h3 h4 h5))
    go_ret
    have e1 := (below_call B0.out b1).alloc (below_call B0.out b1).size (.cells (entV ⟨rop, rform, rfrm, rkind, rmask, rmtch, 1⟩ nn) 42)
    have e2 := (below_call e1 b2).alloc (below_call e1 b2).size (.cells (hasV ⟨true, false, false, false, true, false⟩) 106)
    exact ⟨rfl, e2⟩
theorem rmay_2_0 (W : World) (op form frm kind rd rs1 rs2 rs3 rm : Nat) (imm : Int) (csr : Nat) (rop rform rfrm rkind rmask rmtch : Nat) (ho : OFS op form frm kind = some ⟨rop, rform, rfrm, rkind, rmask, rmtch, 2⟩) (y0 : decide (31 < (rd : Int)) = false) (y1 : decide (31 < (rs1 : Int)) = false) (y2 : decide (31 < (rs2 : Int)) = false) (y3 : decide (31 < (rs3 : Int)) = false) (y4 : decide (7 < (rm : Int)) = false) (y5 : ((rm : Int) == 5) = false) (y6 : ((rm : Int) == 6) = false) (y7 : decide (imm < -2048) = false) (y8 : decide (2047 < imm) = false) (y9 : decide (3 < (csr : Int)) = false) (z0 : ((rd : Int) != 0) = true) : Calls Try.prog 27 #[.agg (instV ⟨op, form, frm, kind, rd, rs1, rs2, rs3, rm, imm, csr⟩)] W fun e w' => e = .returned (.bool false) ∧ Below W.heap.size W w' := by
  have HF : Hid (∀ X, Calls Try.prog 59 #[.int .u8 2] X fun e w' => e = .returned (.agg (hasV ⟨false, true, false, false, true, false⟩)) ∧ Below X.heap.size X w') := Lib.hid (fun X => fields_c X 2 (by decide))
  have HC := Lib.hid (rof_is ⟨op, form, frm, kind, rd, rs1, rs2, rs3, rm, imm, csr⟩ (some ⟨rop, rform, rfrm, rkind, rmask, rmtch, 2⟩) ho)
  simp only [] at HC
  clear ho
  have K0 := Lib.hid (Blk.new W (instV ⟨op, form, frm, kind, rd, rs1, rs2, rs3, rm, imm, csr⟩) 27)
  have B0 := Lib.hid ((Below.refl W.heap.size W).alloc (Nat.le_refl _) (.cells (instV ⟨op, form, frm, kind, rd, rs1, rs2, rs3, rm, imm, csr⟩) 27))
  go_enter Try.func27, Try.ntmps27
  go_wp2_with (first
    | (go_at_call 47; (with_reducible refine (HC.out _).mono ?_); rintro e w1 ⟨⟨rr, nn, c, rfl, rfl, rfl⟩, b1⟩; clear HC; have n6 := (Blk.new w1 (entV ⟨rop, rform, rfrm, rkind, rmask, rmtch, 2⟩ nn) 42).cell 6; simp only [List.getElem?_toArray, List.getElem?_cons_succ, List.getElem?_cons_zero] at n6)
    | (go_at_call 59; (with_reducible refine (HF.out _).mono ?_); rintro e w2 ⟨rfl, b2⟩; clear HF; have kx := (((K0.out.call b1).alloc (.cells (entV ⟨rop, rform, rfrm, rkind, rmask, rmtch, 2⟩ nn) 42)).call b2).alloc (.cells (hasV ⟨false, true, false, false, true, false⟩) 106); have c4 := kx.cell 4; have c5 := kx.cell 5; have c6 := kx.cell 6; have c7 := kx.cell 7; have c8 := kx.cell 8; have c9 := kx.cell 9; have c10 := kx.cell 10; have kh := Blk.new w2 (hasV ⟨false, true, false, false, true, false⟩) 106; have h0 := kh.cell 0; have h1 := kh.cell 1; have h2 := kh.cell 2; have h3 := kh.cell 3; have h4 := kh.cell 4; have h5 := kh.cell 5; simp only [List.getElem?_toArray, List.getElem?_cons_succ, List.getElem?_cons_zero] at c4 c5 c6 c7 c8 c9 c10 h0 h1 h2 h3 h4 h5))
  go_ret
  have e1 := (below_call B0.out b1).alloc (below_call B0.out b1).size (.cells (entV ⟨rop, rform, rfrm, rkind, rmask, rmtch, 2⟩ nn) 42)
  have e2 := (below_call e1 b2).alloc (below_call e1 b2).size (.cells (hasV ⟨false, true, false, false, true, false⟩) 106)
  exact ⟨rfl, e2⟩
theorem rmay_2_1 (W : World) (op form frm kind rd rs1 rs2 rs3 rm : Nat) (imm : Int) (csr : Nat) (rop rform rfrm rkind rmask rmtch : Nat) (ho : OFS op form frm kind = some ⟨rop, rform, rfrm, rkind, rmask, rmtch, 2⟩) (y0 : decide (31 < (rd : Int)) = false) (y1 : decide (31 < (rs1 : Int)) = false) (y2 : decide (31 < (rs2 : Int)) = false) (y3 : decide (31 < (rs3 : Int)) = false) (y4 : decide (7 < (rm : Int)) = false) (y5 : ((rm : Int) == 5) = false) (y6 : ((rm : Int) == 6) = false) (y7 : decide (imm < -2048) = false) (y8 : decide (2047 < imm) = false) (y9 : decide (3 < (csr : Int)) = false) (z0 : ((rd : Int) != 0) = false) (z1 : ((rs3 : Int) != 0) = true) : Calls Try.prog 27 #[.agg (instV ⟨op, form, frm, kind, rd, rs1, rs2, rs3, rm, imm, csr⟩)] W fun e w' => e = .returned (.bool false) ∧ Below W.heap.size W w' := by
  have HF : Hid (∀ X, Calls Try.prog 59 #[.int .u8 2] X fun e w' => e = .returned (.agg (hasV ⟨false, true, false, false, true, false⟩)) ∧ Below X.heap.size X w') := Lib.hid (fun X => fields_c X 2 (by decide))
  have HC := Lib.hid (rof_is ⟨op, form, frm, kind, rd, rs1, rs2, rs3, rm, imm, csr⟩ (some ⟨rop, rform, rfrm, rkind, rmask, rmtch, 2⟩) ho)
  simp only [] at HC
  clear ho
  have K0 := Lib.hid (Blk.new W (instV ⟨op, form, frm, kind, rd, rs1, rs2, rs3, rm, imm, csr⟩) 27)
  have B0 := Lib.hid ((Below.refl W.heap.size W).alloc (Nat.le_refl _) (.cells (instV ⟨op, form, frm, kind, rd, rs1, rs2, rs3, rm, imm, csr⟩) 27))
  go_enter Try.func27, Try.ntmps27
  go_wp2_with (first
    | (go_at_call 47; (with_reducible refine (HC.out _).mono ?_); rintro e w1 ⟨⟨rr, nn, c, rfl, rfl, rfl⟩, b1⟩; clear HC; have n6 := (Blk.new w1 (entV ⟨rop, rform, rfrm, rkind, rmask, rmtch, 2⟩ nn) 42).cell 6; simp only [List.getElem?_toArray, List.getElem?_cons_succ, List.getElem?_cons_zero] at n6)
    | (go_at_call 59; (with_reducible refine (HF.out _).mono ?_); rintro e w2 ⟨rfl, b2⟩; clear HF; have kx := (((K0.out.call b1).alloc (.cells (entV ⟨rop, rform, rfrm, rkind, rmask, rmtch, 2⟩ nn) 42)).call b2).alloc (.cells (hasV ⟨false, true, false, false, true, false⟩) 106); have c4 := kx.cell 4; have c5 := kx.cell 5; have c6 := kx.cell 6; have c7 := kx.cell 7; have c8 := kx.cell 8; have c9 := kx.cell 9; have c10 := kx.cell 10; have kh := Blk.new w2 (hasV ⟨false, true, false, false, true, false⟩) 106; have h0 := kh.cell 0; have h1 := kh.cell 1; have h2 := kh.cell 2; have h3 := kh.cell 3; have h4 := kh.cell 4; have h5 := kh.cell 5; simp only [List.getElem?_toArray, List.getElem?_cons_succ, List.getElem?_cons_zero] at c4 c5 c6 c7 c8 c9 c10 h0 h1 h2 h3 h4 h5))
  go_ret
  have e1 := (below_call B0.out b1).alloc (below_call B0.out b1).size (.cells (entV ⟨rop, rform, rfrm, rkind, rmask, rmtch, 2⟩ nn) 42)
  have e2 := (below_call e1 b2).alloc (below_call e1 b2).size (.cells (hasV ⟨false, true, false, false, true, false⟩) 106)
  exact ⟨rfl, e2⟩
theorem rmay_2_2 (W : World) (op form frm kind rd rs1 rs2 rs3 rm : Nat) (imm : Int) (csr : Nat) (rop rform rfrm rkind rmask rmtch : Nat) (ho : OFS op form frm kind = some ⟨rop, rform, rfrm, rkind, rmask, rmtch, 2⟩) (y0 : decide (31 < (rd : Int)) = false) (y1 : decide (31 < (rs1 : Int)) = false) (y2 : decide (31 < (rs2 : Int)) = false) (y3 : decide (31 < (rs3 : Int)) = false) (y4 : decide (7 < (rm : Int)) = false) (y5 : ((rm : Int) == 5) = false) (y6 : ((rm : Int) == 6) = false) (y7 : decide (imm < -2048) = false) (y8 : decide (2047 < imm) = false) (y9 : decide (3 < (csr : Int)) = false) (z0 : ((rd : Int) != 0) = false) (z1 : ((rs3 : Int) != 0) = false) (z2 : ((rm : Int) != 0) = true) : Calls Try.prog 27 #[.agg (instV ⟨op, form, frm, kind, rd, rs1, rs2, rs3, rm, imm, csr⟩)] W fun e w' => e = .returned (.bool false) ∧ Below W.heap.size W w' := by
  have HF : Hid (∀ X, Calls Try.prog 59 #[.int .u8 2] X fun e w' => e = .returned (.agg (hasV ⟨false, true, false, false, true, false⟩)) ∧ Below X.heap.size X w') := Lib.hid (fun X => fields_c X 2 (by decide))
  have HC := Lib.hid (rof_is ⟨op, form, frm, kind, rd, rs1, rs2, rs3, rm, imm, csr⟩ (some ⟨rop, rform, rfrm, rkind, rmask, rmtch, 2⟩) ho)
  simp only [] at HC
  clear ho
  have K0 := Lib.hid (Blk.new W (instV ⟨op, form, frm, kind, rd, rs1, rs2, rs3, rm, imm, csr⟩) 27)
  have B0 := Lib.hid ((Below.refl W.heap.size W).alloc (Nat.le_refl _) (.cells (instV ⟨op, form, frm, kind, rd, rs1, rs2, rs3, rm, imm, csr⟩) 27))
  go_enter Try.func27, Try.ntmps27
  go_wp2_with (first
    | (go_at_call 47; (with_reducible refine (HC.out _).mono ?_); rintro e w1 ⟨⟨rr, nn, c, rfl, rfl, rfl⟩, b1⟩; clear HC; have n6 := (Blk.new w1 (entV ⟨rop, rform, rfrm, rkind, rmask, rmtch, 2⟩ nn) 42).cell 6; simp only [List.getElem?_toArray, List.getElem?_cons_succ, List.getElem?_cons_zero] at n6)
    | (go_at_call 59; (with_reducible refine (HF.out _).mono ?_); rintro e w2 ⟨rfl, b2⟩; clear HF; have kx := (((K0.out.call b1).alloc (.cells (entV ⟨rop, rform, rfrm, rkind, rmask, rmtch, 2⟩ nn) 42)).call b2).alloc (.cells (hasV ⟨false, true, false, false, true, false⟩) 106); have c4 := kx.cell 4; have c5 := kx.cell 5; have c6 := kx.cell 6; have c7 := kx.cell 7; have c8 := kx.cell 8; have c9 := kx.cell 9; have c10 := kx.cell 10; have kh := Blk.new w2 (hasV ⟨false, true, false, false, true, false⟩) 106; have h0 := kh.cell 0; have h1 := kh.cell 1; have h2 := kh.cell 2; have h3 := kh.cell 3; have h4 := kh.cell 4; have h5 := kh.cell 5; simp only [List.getElem?_toArray, List.getElem?_cons_succ, List.getElem?_cons_zero] at c4 c5 c6 c7 c8 c9 c10 h0 h1 h2 h3 h4 h5))
  go_ret
  have e1 := (below_call B0.out b1).alloc (below_call B0.out b1).size (.cells (entV ⟨rop, rform, rfrm, rkind, rmask, rmtch, 2⟩ nn) 42)
  have e2 := (below_call e1 b2).alloc (below_call e1 b2).size (.cells (hasV ⟨false, true, false, false, true, false⟩) 106)
  exact ⟨rfl, e2⟩
theorem rmay_2_ok (W : World) (op form frm kind rd rs1 rs2 rs3 rm : Nat) (imm : Int) (csr : Nat) (rop rform rfrm rkind rmask rmtch : Nat) (ho : OFS op form frm kind = some ⟨rop, rform, rfrm, rkind, rmask, rmtch, 2⟩) (y0 : decide (31 < (rd : Int)) = false) (y1 : decide (31 < (rs1 : Int)) = false) (y2 : decide (31 < (rs2 : Int)) = false) (y3 : decide (31 < (rs3 : Int)) = false) (y4 : decide (7 < (rm : Int)) = false) (y5 : ((rm : Int) == 5) = false) (y6 : ((rm : Int) == 6) = false) (y7 : decide (imm < -2048) = false) (y8 : decide (2047 < imm) = false) (y9 : decide (3 < (csr : Int)) = false) (z0 : ((rd : Int) != 0) = false) (z1 : ((rs3 : Int) != 0) = false) (z2 : ((rm : Int) != 0) = false) (b : Bool) (zc : ((csr : Int) != 0) = b) : Calls Try.prog 27 #[.agg (instV ⟨op, form, frm, kind, rd, rs1, rs2, rs3, rm, imm, csr⟩)] W fun e w' => e = .returned (.bool (false == b)) ∧ Below W.heap.size W w' := by
  have HF : Hid (∀ X, Calls Try.prog 59 #[.int .u8 2] X fun e w' => e = .returned (.agg (hasV ⟨false, true, false, false, true, false⟩)) ∧ Below X.heap.size X w') := Lib.hid (fun X => fields_c X 2 (by decide))
  have HC := Lib.hid (rof_is ⟨op, form, frm, kind, rd, rs1, rs2, rs3, rm, imm, csr⟩ (some ⟨rop, rform, rfrm, rkind, rmask, rmtch, 2⟩) ho)
  simp only [] at HC
  clear ho
  have K0 := Lib.hid (Blk.new W (instV ⟨op, form, frm, kind, rd, rs1, rs2, rs3, rm, imm, csr⟩) 27)
  have B0 := Lib.hid ((Below.refl W.heap.size W).alloc (Nat.le_refl _) (.cells (instV ⟨op, form, frm, kind, rd, rs1, rs2, rs3, rm, imm, csr⟩) 27))
  cases b
  all_goals
    go_enter Try.func27, Try.ntmps27
    go_wp2_with (first
      | (go_at_call 47; (with_reducible refine (HC.out _).mono ?_); rintro e w1 ⟨⟨rr, nn, c, rfl, rfl, rfl⟩, b1⟩; clear HC; have n6 := (Blk.new w1 (entV ⟨rop, rform, rfrm, rkind, rmask, rmtch, 2⟩ nn) 42).cell 6; simp only [List.getElem?_toArray, List.getElem?_cons_succ, List.getElem?_cons_zero] at n6)
      | (go_at_call 59; (with_reducible refine (HF.out _).mono ?_); rintro e w2 ⟨rfl, b2⟩; clear HF; have kx := (((K0.out.call b1).alloc (.cells (entV ⟨rop, rform, rfrm, rkind, rmask, rmtch, 2⟩ nn) 42)).call b2).alloc (.cells (hasV ⟨false, true, false, false, true, false⟩) 106); have c4 := kx.cell 4; have c5 := kx.cell 5; have c6 := kx.cell 6; have c7 := kx.cell 7; have c8 := kx.cell 8; have c9 := kx.cell 9; have c10 := kx.cell 10; have kh := Blk.new w2 (hasV ⟨false, true, false, false, true, false⟩) 106; have h0 := kh.cell 0; have h1 := kh.cell 1; have h2 := kh.cell 2; have h3 := kh.cell 3; have h4 := kh.cell 4; have h5 := kh.cell 5; simp only [List.getElem?_toArray, List.getElem?_cons_succ, List.getElem?_cons_zero] at c4 c5 c6 c7 c8 c9 c10 h0 h1 h2 h3 h4 h5))
    go_ret
    have e1 := (below_call B0.out b1).alloc (below_call B0.out b1).size (.cells (entV ⟨rop, rform, rfrm, rkind, rmask, rmtch, 2⟩ nn) 42)
    have e2 := (below_call e1 b2).alloc (below_call e1 b2).size (.cells (hasV ⟨false, true, false, false, true, false⟩) 106)
    exact ⟨rfl, e2⟩
theorem rmay_3_0 (W : World) (op form frm kind rd rs1 rs2 rs3 rm : Nat) (imm : Int) (csr : Nat) (rop rform rfrm rkind rmask rmtch : Nat) (ho : OFS op form frm kind = some ⟨rop, rform, rfrm, rkind, rmask, rmtch, 3⟩) (y0 : decide (31 < (rd : Int)) = false) (y1 : decide (31 < (rs1 : Int)) = false) (y2 : decide (31 < (rs2 : Int)) = false) (y3 : decide (31 < (rs3 : Int)) = false) (y4 : decide (7 < (rm : Int)) = false) (y5 : ((rm : Int) == 5) = false) (y6 : ((rm : Int) == 6) = false) (y7 : decide (imm < -2048) = false) (y8 : decide (2047 < imm) = false) (y9 : decide (3 < (csr : Int)) = false) (z0 : (imm != 0) = true) : Calls Try.prog 27 #[.agg (instV ⟨op, form, frm, kind, rd, rs1, rs2, rs3, rm, imm, csr⟩)] W fun e w' => e = .returned (.bool false) ∧ Below W.heap.size W w' := by
  have HF : Hid (∀ X, Calls Try.prog 59 #[.int .u8 3] X fun e w' => e = .returned (.agg (hasV ⟨true, true, true, true, false, false⟩)) ∧ Below X.heap.size X w') := Lib.hid (fun X => fields_c X 3 (by decide))
  have HC := Lib.hid (rof_is ⟨op, form, frm, kind, rd, rs1, rs2, rs3, rm, imm, csr⟩ (some ⟨rop, rform, rfrm, rkind, rmask, rmtch, 3⟩) ho)
  simp only [] at HC
  clear ho
  have K0 := Lib.hid (Blk.new W (instV ⟨op, form, frm, kind, rd, rs1, rs2, rs3, rm, imm, csr⟩) 27)
  have B0 := Lib.hid ((Below.refl W.heap.size W).alloc (Nat.le_refl _) (.cells (instV ⟨op, form, frm, kind, rd, rs1, rs2, rs3, rm, imm, csr⟩) 27))
  go_enter Try.func27, Try.ntmps27
  go_wp2_with (first
    | (go_at_call 47; (with_reducible refine (HC.out _).mono ?_); rintro e w1 ⟨⟨rr, nn, c, rfl, rfl, rfl⟩, b1⟩; clear HC; have n6 := (Blk.new w1 (entV ⟨rop, rform, rfrm, rkind, rmask, rmtch, 3⟩ nn) 42).cell 6; simp only [List.getElem?_toArray, List.getElem?_cons_succ, List.getElem?_cons_zero] at n6)
    | (go_at_call 59; (with_reducible refine (HF.out _).mono ?_); rintro e w2 ⟨rfl, b2⟩; clear HF; have kx := (((K0.out.call b1).alloc (.cells (entV ⟨rop, rform, rfrm, rkind, rmask, rmtch, 3⟩ nn) 42)).call b2).alloc (.cells (hasV ⟨true, true, true, true, false, false⟩) 106); have c4 := kx.cell 4; have c5 := kx.cell 5; have c6 := kx.cell 6; have c7 := kx.cell 7; have c8 := kx.cell 8; have c9 := kx.cell 9; have c10 := kx.cell 10; have kh := Blk.new w2 (hasV ⟨true, true, true, true, false, false⟩) 106; have h0 := kh.cell 0; have h1 := kh.cell 1; have h2 := kh.cell 2; have h3 := kh.cell 3; have h4 := kh.cell 4; have h5 := kh.cell 5; simp only [List.getElem?_toArray, List.getElem?_cons_succ, List.getElem?_cons_zero] at c4 c5 c6 c7 c8 c9 c10 h0 h1 h2 h3 h4 h5))
  go_ret
  have e1 := (below_call B0.out b1).alloc (below_call B0.out b1).size (.cells (entV ⟨rop, rform, rfrm, rkind, rmask, rmtch, 3⟩ nn) 42)
  have e2 := (below_call e1 b2).alloc (below_call e1 b2).size (.cells (hasV ⟨true, true, true, true, false, false⟩) 106)
  exact ⟨rfl, e2⟩
theorem rmay_3_ok (W : World) (op form frm kind rd rs1 rs2 rs3 rm : Nat) (imm : Int) (csr : Nat) (rop rform rfrm rkind rmask rmtch : Nat) (ho : OFS op form frm kind = some ⟨rop, rform, rfrm, rkind, rmask, rmtch, 3⟩) (y0 : decide (31 < (rd : Int)) = false) (y1 : decide (31 < (rs1 : Int)) = false) (y2 : decide (31 < (rs2 : Int)) = false) (y3 : decide (31 < (rs3 : Int)) = false) (y4 : decide (7 < (rm : Int)) = false) (y5 : ((rm : Int) == 5) = false) (y6 : ((rm : Int) == 6) = false) (y7 : decide (imm < -2048) = false) (y8 : decide (2047 < imm) = false) (y9 : decide (3 < (csr : Int)) = false) (z0 : (imm != 0) = false) (b : Bool) (zc : ((csr : Int) != 0) = b) : Calls Try.prog 27 #[.agg (instV ⟨op, form, frm, kind, rd, rs1, rs2, rs3, rm, imm, csr⟩)] W fun e w' => e = .returned (.bool (false == b)) ∧ Below W.heap.size W w' := by
  have HF : Hid (∀ X, Calls Try.prog 59 #[.int .u8 3] X fun e w' => e = .returned (.agg (hasV ⟨true, true, true, true, false, false⟩)) ∧ Below X.heap.size X w') := Lib.hid (fun X => fields_c X 3 (by decide))
  have HC := Lib.hid (rof_is ⟨op, form, frm, kind, rd, rs1, rs2, rs3, rm, imm, csr⟩ (some ⟨rop, rform, rfrm, rkind, rmask, rmtch, 3⟩) ho)
  simp only [] at HC
  clear ho
  have K0 := Lib.hid (Blk.new W (instV ⟨op, form, frm, kind, rd, rs1, rs2, rs3, rm, imm, csr⟩) 27)
  have B0 := Lib.hid ((Below.refl W.heap.size W).alloc (Nat.le_refl _) (.cells (instV ⟨op, form, frm, kind, rd, rs1, rs2, rs3, rm, imm, csr⟩) 27))
  cases b
  all_goals
    go_enter Try.func27, Try.ntmps27
    go_wp2_with (first
      | (go_at_call 47; (with_reducible refine (HC.out _).mono ?_); rintro e w1 ⟨⟨rr, nn, c, rfl, rfl, rfl⟩, b1⟩; clear HC; have n6 := (Blk.new w1 (entV ⟨rop, rform, rfrm, rkind, rmask, rmtch, 3⟩ nn) 42).cell 6; simp only [List.getElem?_toArray, List.getElem?_cons_succ, List.getElem?_cons_zero] at n6)
      | (go_at_call 59; (with_reducible refine (HF.out _).mono ?_); rintro e w2 ⟨rfl, b2⟩; clear HF; have kx := (((K0.out.call b1).alloc (.cells (entV ⟨rop, rform, rfrm, rkind, rmask, rmtch, 3⟩ nn) 42)).call b2).alloc (.cells (hasV ⟨true, true, true, true, false, false⟩) 106); have c4 := kx.cell 4; have c5 := kx.cell 5; have c6 := kx.cell 6; have c7 := kx.cell 7; have c8 := kx.cell 8; have c9 := kx.cell 9; have c10 := kx.cell 10; have kh := Blk.new w2 (hasV ⟨true, true, true, true, false, false⟩) 106; have h0 := kh.cell 0; have h1 := kh.cell 1; have h2 := kh.cell 2; have h3 := kh.cell 3; have h4 := kh.cell 4; have h5 := kh.cell 5; simp only [List.getElem?_toArray, List.getElem?_cons_succ, List.getElem?_cons_zero] at c4 c5 c6 c7 c8 c9 c10 h0 h1 h2 h3 h4 h5))
    go_ret
    have e1 := (below_call B0.out b1).alloc (below_call B0.out b1).size (.cells (entV ⟨rop, rform, rfrm, rkind, rmask, rmtch, 3⟩ nn) 42)
    have e2 := (below_call e1 b2).alloc (below_call e1 b2).size (.cells (hasV ⟨true, true, true, true, false, false⟩) 106)
    exact ⟨rfl, e2⟩
end Go.Proofs.Yteelconabmfnkaa

/- abacusref25.May: by the layout. -/
namespace Go.Proofs.Yteelconabmfnkaa
open Go Go.RowKit
set_option maxHeartbeats 4000000
set_option maxRecDepth 100000
set_option linter.unusedVariables false
set_option linter.unusedSimpArgs false
theorem rmay_4_0 (W : World) (op form frm kind rd rs1 rs2 rs3 rm : Nat) (imm : Int) (csr : Nat) (rop rform rfrm rkind rmask rmtch : Nat) (ho : OFS op form frm kind = some ⟨rop, rform, rfrm, rkind, rmask, rmtch, 4⟩) (y0 : decide (31 < (rd : Int)) = false) (y1 : decide (31 < (rs1 : Int)) = false) (y2 : decide (31 < (rs2 : Int)) = false) (y3 : decide (31 < (rs3 : Int)) = false) (y4 : decide (7 < (rm : Int)) = false) (y5 : ((rm : Int) == 5) = false) (y6 : ((rm : Int) == 6) = false) (y7 : decide (imm < -2048) = false) (y8 : decide (2047 < imm) = false) (y9 : decide (3 < (csr : Int)) = false) (z0 : ((rs3 : Int) != 0) = true) : Calls Try.prog 27 #[.agg (instV ⟨op, form, frm, kind, rd, rs1, rs2, rs3, rm, imm, csr⟩)] W fun e w' => e = .returned (.bool false) ∧ Below W.heap.size W w' := by
  have HF : Hid (∀ X, Calls Try.prog 59 #[.int .u8 4] X fun e w' => e = .returned (.agg (hasV ⟨true, true, false, true, false, false⟩)) ∧ Below X.heap.size X w') := Lib.hid (fun X => fields_c X 4 (by decide))
  have HC := Lib.hid (rof_is ⟨op, form, frm, kind, rd, rs1, rs2, rs3, rm, imm, csr⟩ (some ⟨rop, rform, rfrm, rkind, rmask, rmtch, 4⟩) ho)
  simp only [] at HC
  clear ho
  have K0 := Lib.hid (Blk.new W (instV ⟨op, form, frm, kind, rd, rs1, rs2, rs3, rm, imm, csr⟩) 27)
  have B0 := Lib.hid ((Below.refl W.heap.size W).alloc (Nat.le_refl _) (.cells (instV ⟨op, form, frm, kind, rd, rs1, rs2, rs3, rm, imm, csr⟩) 27))
  go_enter Try.func27, Try.ntmps27
  go_wp2_with (first
    | (go_at_call 47; (with_reducible refine (HC.out _).mono ?_); rintro e w1 ⟨⟨rr, nn, c, rfl, rfl, rfl⟩, b1⟩; clear HC; have n6 := (Blk.new w1 (entV ⟨rop, rform, rfrm, rkind, rmask, rmtch, 4⟩ nn) 42).cell 6; simp only [List.getElem?_toArray, List.getElem?_cons_succ, List.getElem?_cons_zero] at n6)
    | (go_at_call 59; (with_reducible refine (HF.out _).mono ?_); rintro e w2 ⟨rfl, b2⟩; clear HF; have kx := (((K0.out.call b1).alloc (.cells (entV ⟨rop, rform, rfrm, rkind, rmask, rmtch, 4⟩ nn) 42)).call b2).alloc (.cells (hasV ⟨true, true, false, true, false, false⟩) 106); have c4 := kx.cell 4; have c5 := kx.cell 5; have c6 := kx.cell 6; have c7 := kx.cell 7; have c8 := kx.cell 8; have c9 := kx.cell 9; have c10 := kx.cell 10; have kh := Blk.new w2 (hasV ⟨true, true, false, true, false, false⟩) 106; have h0 := kh.cell 0; have h1 := kh.cell 1; have h2 := kh.cell 2; have h3 := kh.cell 3; have h4 := kh.cell 4; have h5 := kh.cell 5; simp only [List.getElem?_toArray, List.getElem?_cons_succ, List.getElem?_cons_zero] at c4 c5 c6 c7 c8 c9 c10 h0 h1 h2 h3 h4 h5))
  go_ret
  have e1 := (below_call B0.out b1).alloc (below_call B0.out b1).size (.cells (entV ⟨rop, rform, rfrm, rkind, rmask, rmtch, 4⟩ nn) 42)
  have e2 := (below_call e1 b2).alloc (below_call e1 b2).size (.cells (hasV ⟨true, true, false, true, false, false⟩) 106)
  exact ⟨rfl, e2⟩
theorem rmay_4_1 (W : World) (op form frm kind rd rs1 rs2 rs3 rm : Nat) (imm : Int) (csr : Nat) (rop rform rfrm rkind rmask rmtch : Nat) (ho : OFS op form frm kind = some ⟨rop, rform, rfrm, rkind, rmask, rmtch, 4⟩) (y0 : decide (31 < (rd : Int)) = false) (y1 : decide (31 < (rs1 : Int)) = false) (y2 : decide (31 < (rs2 : Int)) = false) (y3 : decide (31 < (rs3 : Int)) = false) (y4 : decide (7 < (rm : Int)) = false) (y5 : ((rm : Int) == 5) = false) (y6 : ((rm : Int) == 6) = false) (y7 : decide (imm < -2048) = false) (y8 : decide (2047 < imm) = false) (y9 : decide (3 < (csr : Int)) = false) (z0 : ((rs3 : Int) != 0) = false) (z1 : (imm != 0) = true) : Calls Try.prog 27 #[.agg (instV ⟨op, form, frm, kind, rd, rs1, rs2, rs3, rm, imm, csr⟩)] W fun e w' => e = .returned (.bool false) ∧ Below W.heap.size W w' := by
  have HF : Hid (∀ X, Calls Try.prog 59 #[.int .u8 4] X fun e w' => e = .returned (.agg (hasV ⟨true, true, false, true, false, false⟩)) ∧ Below X.heap.size X w') := Lib.hid (fun X => fields_c X 4 (by decide))
  have HC := Lib.hid (rof_is ⟨op, form, frm, kind, rd, rs1, rs2, rs3, rm, imm, csr⟩ (some ⟨rop, rform, rfrm, rkind, rmask, rmtch, 4⟩) ho)
  simp only [] at HC
  clear ho
  have K0 := Lib.hid (Blk.new W (instV ⟨op, form, frm, kind, rd, rs1, rs2, rs3, rm, imm, csr⟩) 27)
  have B0 := Lib.hid ((Below.refl W.heap.size W).alloc (Nat.le_refl _) (.cells (instV ⟨op, form, frm, kind, rd, rs1, rs2, rs3, rm, imm, csr⟩) 27))
  go_enter Try.func27, Try.ntmps27
  go_wp2_with (first
    | (go_at_call 47; (with_reducible refine (HC.out _).mono ?_); rintro e w1 ⟨⟨rr, nn, c, rfl, rfl, rfl⟩, b1⟩; clear HC; have n6 := (Blk.new w1 (entV ⟨rop, rform, rfrm, rkind, rmask, rmtch, 4⟩ nn) 42).cell 6; simp only [List.getElem?_toArray, List.getElem?_cons_succ, List.getElem?_cons_zero] at n6)
    | (go_at_call 59; (with_reducible refine (HF.out _).mono ?_); rintro e w2 ⟨rfl, b2⟩; clear HF; have kx := (((K0.out.call b1).alloc (.cells (entV ⟨rop, rform, rfrm, rkind, rmask, rmtch, 4⟩ nn) 42)).call b2).alloc (.cells (hasV ⟨true, true, false, true, false, false⟩) 106); have c4 := kx.cell 4; have c5 := kx.cell 5; have c6 := kx.cell 6; have c7 := kx.cell 7; have c8 := kx.cell 8; have c9 := kx.cell 9; have c10 := kx.cell 10; have kh := Blk.new w2 (hasV ⟨true, true, false, true, false, false⟩) 106; have h0 := kh.cell 0; have h1 := kh.cell 1; have h2 := kh.cell 2; have h3 := kh.cell 3; have h4 := kh.cell 4; have h5 := kh.cell 5; simp only [List.getElem?_toArray, List.getElem?_cons_succ, List.getElem?_cons_zero] at c4 c5 c6 c7 c8 c9 c10 h0 h1 h2 h3 h4 h5))
  go_ret
  have e1 := (below_call B0.out b1).alloc (below_call B0.out b1).size (.cells (entV ⟨rop, rform, rfrm, rkind, rmask, rmtch, 4⟩ nn) 42)
  have e2 := (below_call e1 b2).alloc (below_call e1 b2).size (.cells (hasV ⟨true, true, false, true, false, false⟩) 106)
  exact ⟨rfl, e2⟩
theorem rmay_4_ok (W : World) (op form frm kind rd rs1 rs2 rs3 rm : Nat) (imm : Int) (csr : Nat) (rop rform rfrm rkind rmask rmtch : Nat) (ho : OFS op form frm kind = some ⟨rop, rform, rfrm, rkind, rmask, rmtch, 4⟩) (y0 : decide (31 < (rd : Int)) = false) (y1 : decide (31 < (rs1 : Int)) = false) (y2 : decide (31 < (rs2 : Int)) = false) (y3 : decide (31 < (rs3 : Int)) = false) (y4 : decide (7 < (rm : Int)) = false) (y5 : ((rm : Int) == 5) = false) (y6 : ((rm : Int) == 6) = false) (y7 : decide (imm < -2048) = false) (y8 : decide (2047 < imm) = false) (y9 : decide (3 < (csr : Int)) = false) (z0 : ((rs3 : Int) != 0) = false) (z1 : (imm != 0) = false) (b : Bool) (zc : ((csr : Int) != 0) = b) : Calls Try.prog 27 #[.agg (instV ⟨op, form, frm, kind, rd, rs1, rs2, rs3, rm, imm, csr⟩)] W fun e w' => e = .returned (.bool (false == b)) ∧ Below W.heap.size W w' := by
  have HF : Hid (∀ X, Calls Try.prog 59 #[.int .u8 4] X fun e w' => e = .returned (.agg (hasV ⟨true, true, false, true, false, false⟩)) ∧ Below X.heap.size X w') := Lib.hid (fun X => fields_c X 4 (by decide))
  have HC := Lib.hid (rof_is ⟨op, form, frm, kind, rd, rs1, rs2, rs3, rm, imm, csr⟩ (some ⟨rop, rform, rfrm, rkind, rmask, rmtch, 4⟩) ho)
  simp only [] at HC
  clear ho
  have K0 := Lib.hid (Blk.new W (instV ⟨op, form, frm, kind, rd, rs1, rs2, rs3, rm, imm, csr⟩) 27)
  have B0 := Lib.hid ((Below.refl W.heap.size W).alloc (Nat.le_refl _) (.cells (instV ⟨op, form, frm, kind, rd, rs1, rs2, rs3, rm, imm, csr⟩) 27))
  cases b
  all_goals
    go_enter Try.func27, Try.ntmps27
    go_wp2_with (first
      | (go_at_call 47; (with_reducible refine (HC.out _).mono ?_); rintro e w1 ⟨⟨rr, nn, c, rfl, rfl, rfl⟩, b1⟩; clear HC; have n6 := (Blk.new w1 (entV ⟨rop, rform, rfrm, rkind, rmask, rmtch, 4⟩ nn) 42).cell 6; simp only [List.getElem?_toArray, List.getElem?_cons_succ, List.getElem?_cons_zero] at n6)
      | (go_at_call 59; (with_reducible refine (HF.out _).mono ?_); rintro e w2 ⟨rfl, b2⟩; clear HF; have kx := (((K0.out.call b1).alloc (.cells (entV ⟨rop, rform, rfrm, rkind, rmask, rmtch, 4⟩ nn) 42)).call b2).alloc (.cells (hasV ⟨true, true, false, true, false, false⟩) 106); have c4 := kx.cell 4; have c5 := kx.cell 5; have c6 := kx.cell 6; have c7 := kx.cell 7; have c8 := kx.cell 8; have c9 := kx.cell 9; have c10 := kx.cell 10; have kh := Blk.new w2 (hasV ⟨true, true, false, true, false, false⟩) 106; have h0 := kh.cell 0; have h1 := kh.cell 1; have h2 := kh.cell 2; have h3 := kh.cell 3; have h4 := kh.cell 4; have h5 := kh.cell 5; simp only [List.getElem?_toArray, List.getElem?_cons_succ, List.getElem?_cons_zero] at c4 c5 c6 c7 c8 c9 c10 h0 h1 h2 h3 h4 h5))
    go_ret
    have e1 := (below_call B0.out b1).alloc (below_call B0.out b1).size (.cells (entV ⟨rop, rform, rfrm, rkind, rmask, rmtch, 4⟩ nn) 42)
    have e2 := (below_call e1 b2).alloc (below_call e1 b2).size (.cells (hasV ⟨true, true, false, true, false, false⟩) 106)
    exact ⟨rfl, e2⟩
theorem rmay_5_0 (W : World) (op form frm kind rd rs1 rs2 rs3 rm : Nat) (imm : Int) (csr : Nat) (rop rform rfrm rkind rmask rmtch : Nat) (ho : OFS op form frm kind = some ⟨rop, rform, rfrm, rkind, rmask, rmtch, 5⟩) (y0 : decide (31 < (rd : Int)) = false) (y1 : decide (31 < (rs1 : Int)) = false) (y2 : decide (31 < (rs2 : Int)) = false) (y3 : decide (31 < (rs3 : Int)) = false) (y4 : decide (7 < (rm : Int)) = false) (y5 : ((rm : Int) == 5) = false) (y6 : ((rm : Int) == 6) = false) (y7 : decide (imm < -2048) = false) (y8 : decide (2047 < imm) = false) (y9 : decide (3 < (csr : Int)) = false) (z0 : ((rs3 : Int) != 0) = true) : Calls Try.prog 27 #[.agg (instV ⟨op, form, frm, kind, rd, rs1, rs2, rs3, rm, imm, csr⟩)] W fun e w' => e = .returned (.bool false) ∧ Below W.heap.size W w' := by
  have HF : Hid (∀ X, Calls Try.prog 59 #[.int .u8 5] X fun e w' => e = .returned (.agg (hasV ⟨true, true, false, false, false, false⟩)) ∧ Below X.heap.size X w') := Lib.hid (fun X => fields_c X 5 (by decide))
  have HC := Lib.hid (rof_is ⟨op, form, frm, kind, rd, rs1, rs2, rs3, rm, imm, csr⟩ (some ⟨rop, rform, rfrm, rkind, rmask, rmtch, 5⟩) ho)
  simp only [] at HC
  clear ho
  have K0 := Lib.hid (Blk.new W (instV ⟨op, form, frm, kind, rd, rs1, rs2, rs3, rm, imm, csr⟩) 27)
  have B0 := Lib.hid ((Below.refl W.heap.size W).alloc (Nat.le_refl _) (.cells (instV ⟨op, form, frm, kind, rd, rs1, rs2, rs3, rm, imm, csr⟩) 27))
  go_enter Try.func27, Try.ntmps27
  go_wp2_with (first
    | (go_at_call 47; (with_reducible refine (HC.out _).mono ?_); rintro e w1 ⟨⟨rr, nn, c, rfl, rfl, rfl⟩, b1⟩; clear HC; have n6 := (Blk.new w1 (entV ⟨rop, rform, rfrm, rkind, rmask, rmtch, 5⟩ nn) 42).cell 6; simp only [List.getElem?_toArray, List.getElem?_cons_succ, List.getElem?_cons_zero] at n6)
    | (go_at_call 59; (with_reducible refine (HF.out _).mono ?_); rintro e w2 ⟨rfl, b2⟩; clear HF; have kx := (((K0.out.call b1).alloc (.cells (entV ⟨rop, rform, rfrm, rkind, rmask, rmtch, 5⟩ nn) 42)).call b2).alloc (.cells (hasV ⟨true, true, false, false, false, false⟩) 106); have c4 := kx.cell 4; have c5 := kx.cell 5; have c6 := kx.cell 6; have c7 := kx.cell 7; have c8 := kx.cell 8; have c9 := kx.cell 9; have c10 := kx.cell 10; have kh := Blk.new w2 (hasV ⟨true, true, false, false, false, false⟩) 106; have h0 := kh.cell 0; have h1 := kh.cell 1; have h2 := kh.cell 2; have h3 := kh.cell 3; have h4 := kh.cell 4; have h5 := kh.cell 5; simp only [List.getElem?_toArray, List.getElem?_cons_succ, List.getElem?_cons_zero] at c4 c5 c6 c7 c8 c9 c10 h0 h1 h2 h3 h4 h5))
  go_ret
  have e1 := (below_call B0.out b1).alloc (below_call B0.out b1).size (.cells (entV ⟨rop, rform, rfrm, rkind, rmask, rmtch, 5⟩ nn) 42)
  have e2 := (below_call e1 b2).alloc (below_call e1 b2).size (.cells (hasV ⟨true, true, false, false, false, false⟩) 106)
  exact ⟨rfl, e2⟩
theorem rmay_5_1 (W : World) (op form frm kind rd rs1 rs2 rs3 rm : Nat) (imm : Int) (csr : Nat) (rop rform rfrm rkind rmask rmtch : Nat) (ho : OFS op form frm kind = some ⟨rop, rform, rfrm, rkind, rmask, rmtch, 5⟩) (y0 : decide (31 < (rd : Int)) = false) (y1 : decide (31 < (rs1 : Int)) = false) (y2 : decide (31 < (rs2 : Int)) = false) (y3 : decide (31 < (rs3 : Int)) = false) (y4 : decide (7 < (rm : Int)) = false) (y5 : ((rm : Int) == 5) = false) (y6 : ((rm : Int) == 6) = false) (y7 : decide (imm < -2048) = false) (y8 : decide (2047 < imm) = false) (y9 : decide (3 < (csr : Int)) = false) (z0 : ((rs3 : Int) != 0) = false) (z1 : ((rm : Int) != 0) = true) : Calls Try.prog 27 #[.agg (instV ⟨op, form, frm, kind, rd, rs1, rs2, rs3, rm, imm, csr⟩)] W fun e w' => e = .returned (.bool false) ∧ Below W.heap.size W w' := by
  have HF : Hid (∀ X, Calls Try.prog 59 #[.int .u8 5] X fun e w' => e = .returned (.agg (hasV ⟨true, true, false, false, false, false⟩)) ∧ Below X.heap.size X w') := Lib.hid (fun X => fields_c X 5 (by decide))
  have HC := Lib.hid (rof_is ⟨op, form, frm, kind, rd, rs1, rs2, rs3, rm, imm, csr⟩ (some ⟨rop, rform, rfrm, rkind, rmask, rmtch, 5⟩) ho)
  simp only [] at HC
  clear ho
  have K0 := Lib.hid (Blk.new W (instV ⟨op, form, frm, kind, rd, rs1, rs2, rs3, rm, imm, csr⟩) 27)
  have B0 := Lib.hid ((Below.refl W.heap.size W).alloc (Nat.le_refl _) (.cells (instV ⟨op, form, frm, kind, rd, rs1, rs2, rs3, rm, imm, csr⟩) 27))
  go_enter Try.func27, Try.ntmps27
  go_wp2_with (first
    | (go_at_call 47; (with_reducible refine (HC.out _).mono ?_); rintro e w1 ⟨⟨rr, nn, c, rfl, rfl, rfl⟩, b1⟩; clear HC; have n6 := (Blk.new w1 (entV ⟨rop, rform, rfrm, rkind, rmask, rmtch, 5⟩ nn) 42).cell 6; simp only [List.getElem?_toArray, List.getElem?_cons_succ, List.getElem?_cons_zero] at n6)
    | (go_at_call 59; (with_reducible refine (HF.out _).mono ?_); rintro e w2 ⟨rfl, b2⟩; clear HF; have kx := (((K0.out.call b1).alloc (.cells (entV ⟨rop, rform, rfrm, rkind, rmask, rmtch, 5⟩ nn) 42)).call b2).alloc (.cells (hasV ⟨true, true, false, false, false, false⟩) 106); have c4 := kx.cell 4; have c5 := kx.cell 5; have c6 := kx.cell 6; have c7 := kx.cell 7; have c8 := kx.cell 8; have c9 := kx.cell 9; have c10 := kx.cell 10; have kh := Blk.new w2 (hasV ⟨true, true, false, false, false, false⟩) 106; have h0 := kh.cell 0; have h1 := kh.cell 1; have h2 := kh.cell 2; have h3 := kh.cell 3; have h4 := kh.cell 4; have h5 := kh.cell 5; simp only [List.getElem?_toArray, List.getElem?_cons_succ, List.getElem?_cons_zero] at c4 c5 c6 c7 c8 c9 c10 h0 h1 h2 h3 h4 h5))
  go_ret
  have e1 := (below_call B0.out b1).alloc (below_call B0.out b1).size (.cells (entV ⟨rop, rform, rfrm, rkind, rmask, rmtch, 5⟩ nn) 42)
  have e2 := (below_call e1 b2).alloc (below_call e1 b2).size (.cells (hasV ⟨true, true, false, false, false, false⟩) 106)
  exact ⟨rfl, e2⟩
theorem rmay_5_2 (W : World) (op form frm kind rd rs1 rs2 rs3 rm : Nat) (imm : Int) (csr : Nat) (rop rform rfrm rkind rmask rmtch : Nat) (ho : OFS op form frm kind = some ⟨rop, rform, rfrm, rkind, rmask, rmtch, 5⟩) (y0 : decide (31 < (rd : Int)) = false) (y1 : decide (31 < (rs1 : Int)) = false) (y2 : decide (31 < (rs2 : Int)) = false) (y3 : decide (31 < (rs3 : Int)) = false) (y4 : decide (7 < (rm : Int)) = false) (y5 : ((rm : Int) == 5) = false) (y6 : ((rm : Int) == 6) = false) (y7 : decide (imm < -2048) = false) (y8 : decide (2047 < imm) = false) (y9 : decide (3 < (csr : Int)) = false) (z0 : ((rs3 : Int) != 0) = false) (z1 : ((rm : Int) != 0) = false) (z2 : (imm != 0) = true) : Calls Try.prog 27 #[.agg (instV ⟨op, form, frm, kind, rd, rs1, rs2, rs3, rm, imm, csr⟩)] W fun e w' => e = .returned (.bool false) ∧ Below W.heap.size W w' := by
  have HF : Hid (∀ X, Calls Try.prog 59 #[.int .u8 5] X fun e w' => e = .returned (.agg (hasV ⟨true, true, false, false, false, false⟩)) ∧ Below X.heap.size X w') := Lib.hid (fun X => fields_c X 5 (by decide))
  have HC := Lib.hid (rof_is ⟨op, form, frm, kind, rd, rs1, rs2, rs3, rm, imm, csr⟩ (some ⟨rop, rform, rfrm, rkind, rmask, rmtch, 5⟩) ho)
  simp only [] at HC
  clear ho
  have K0 := Lib.hid (Blk.new W (instV ⟨op, form, frm, kind, rd, rs1, rs2, rs3, rm, imm, csr⟩) 27)
  have B0 := Lib.hid ((Below.refl W.heap.size W).alloc (Nat.le_refl _) (.cells (instV ⟨op, form, frm, kind, rd, rs1, rs2, rs3, rm, imm, csr⟩) 27))
  go_enter Try.func27, Try.ntmps27
  go_wp2_with (first
    | (go_at_call 47; (with_reducible refine (HC.out _).mono ?_); rintro e w1 ⟨⟨rr, nn, c, rfl, rfl, rfl⟩, b1⟩; clear HC; have n6 := (Blk.new w1 (entV ⟨rop, rform, rfrm, rkind, rmask, rmtch, 5⟩ nn) 42).cell 6; simp only [List.getElem?_toArray, List.getElem?_cons_succ, List.getElem?_cons_zero] at n6)
    | (go_at_call 59; (with_reducible refine (HF.out _).mono ?_); rintro e w2 ⟨rfl, b2⟩; clear HF; have kx := (((K0.out.call b1).alloc (.cells (entV ⟨rop, rform, rfrm, rkind, rmask, rmtch, 5⟩ nn) 42)).call b2).alloc (.cells (hasV ⟨true, true, false, false, false, false⟩) 106); have c4 := kx.cell 4; have c5 := kx.cell 5; have c6 := kx.cell 6; have c7 := kx.cell 7; have c8 := kx.cell 8; have c9 := kx.cell 9; have c10 := kx.cell 10; have kh := Blk.new w2 (hasV ⟨true, true, false, false, false, false⟩) 106; have h0 := kh.cell 0; have h1 := kh.cell 1; have h2 := kh.cell 2; have h3 := kh.cell 3; have h4 := kh.cell 4; have h5 := kh.cell 5; simp only [List.getElem?_toArray, List.getElem?_cons_succ, List.getElem?_cons_zero] at c4 c5 c6 c7 c8 c9 c10 h0 h1 h2 h3 h4 h5))
  go_ret
  have e1 := (below_call B0.out b1).alloc (below_call B0.out b1).size (.cells (entV ⟨rop, rform, rfrm, rkind, rmask, rmtch, 5⟩ nn) 42)
  have e2 := (below_call e1 b2).alloc (below_call e1 b2).size (.cells (hasV ⟨true, true, false, false, false, false⟩) 106)
  exact ⟨rfl, e2⟩
theorem rmay_5_ok (W : World) (op form frm kind rd rs1 rs2 rs3 rm : Nat) (imm : Int) (csr : Nat) (rop rform rfrm rkind rmask rmtch : Nat) (ho : OFS op form frm kind = some ⟨rop, rform, rfrm, rkind, rmask, rmtch, 5⟩) (y0 : decide (31 < (rd : Int)) = false) (y1 : decide (31 < (rs1 : Int)) = false) (y2 : decide (31 < (rs2 : Int)) = false) (y3 : decide (31 < (rs3 : Int)) = false) (y4 : decide (7 < (rm : Int)) = false) (y5 : ((rm : Int) == 5) = false) (y6 : ((rm : Int) == 6) = false) (y7 : decide (imm < -2048) = false) (y8 : decide (2047 < imm) = false) (y9 : decide (3 < (csr : Int)) = false) (z0 : ((rs3 : Int) != 0) = false) (z1 : ((rm : Int) != 0) = false) (z2 : (imm != 0) = false) (b : Bool) (zc : ((csr : Int) != 0) = b) : Calls Try.prog 27 #[.agg (instV ⟨op, form, frm, kind, rd, rs1, rs2, rs3, rm, imm, csr⟩)] W fun e w' => e = .returned (.bool (false == b)) ∧ Below W.heap.size W w' := by
  have HF : Hid (∀ X, Calls Try.prog 59 #[.int .u8 5] X fun e w' => e = .returned (.agg (hasV ⟨true, true, false, false, false, false⟩)) ∧ Below X.heap.size X w') := Lib.hid (fun X => fields_c X 5 (by decide))
  have HC := Lib.hid (rof_is ⟨op, form, frm, kind, rd, rs1, rs2, rs3, rm, imm, csr⟩ (some ⟨rop, rform, rfrm, rkind, rmask, rmtch, 5⟩) ho)
  simp only [] at HC
  clear ho
  have K0 := Lib.hid (Blk.new W (instV ⟨op, form, frm, kind, rd, rs1, rs2, rs3, rm, imm, csr⟩) 27)
  have B0 := Lib.hid ((Below.refl W.heap.size W).alloc (Nat.le_refl _) (.cells (instV ⟨op, form, frm, kind, rd, rs1, rs2, rs3, rm, imm, csr⟩) 27))
  cases b
  all_goals
    go_enter Try.func27, Try.ntmps27
    go_wp2_with (first
      | (go_at_call 47; (with_reducible refine (HC.out _).mono ?_); rintro e w1 ⟨⟨rr, nn, c, rfl, rfl, rfl⟩, b1⟩; clear HC; have n6 := (Blk.new w1 (entV ⟨rop, rform, rfrm, rkind, rmask, rmtch, 5⟩ nn) 42).cell 6; simp only [List.getElem?_toArray, List.getElem?_cons_succ, List.getElem?_cons_zero] at n6)
      | (go_at_call 59; (with_reducible refine (HF.out _).mono ?_); rintro e w2 ⟨rfl, b2⟩; clear HF; have kx := (((K0.out.call b1).alloc (.cells (entV ⟨rop, rform, rfrm, rkind, rmask, rmtch, 5⟩ nn) 42)).call b2).alloc (.cells (hasV ⟨true, true, false, false, false, false⟩) 106); have c4 := kx.cell 4; have c5 := kx.cell 5; have c6 := kx.cell 6; have c7 := kx.cell 7; have c8 := kx.cell 8; have c9 := kx.cell 9; have c10 := kx.cell 10; have kh := Blk.new w2 (hasV ⟨true, true, false, false, false, false⟩) 106; have h0 := kh.cell 0; have h1 := kh.cell 1; have h2 := kh.cell 2; have h3 := kh.cell 3; have h4 := kh.cell 4; have h5 := kh.cell 5; simp only [List.getElem?_toArray, List.getElem?_cons_succ, List.getElem?_cons_zero] at c4 c5 c6 c7 c8 c9 c10 h0 h1 h2 h3 h4 h5))
    go_ret
    have e1 := (below_call B0.out b1).alloc (below_call B0.out b1).size (.cells (entV ⟨rop, rform, rfrm, rkind, rmask, rmtch, 5⟩ nn) 42)
    have e2 := (below_call e1 b2).alloc (below_call e1 b2).size (.cells (hasV ⟨true, true, false, false, false, false⟩) 106)
    exact ⟨rfl, e2⟩
theorem rmay_6_0 (W : World) (op form frm kind rd rs1 rs2 rs3 rm : Nat) (imm : Int) (csr : Nat) (rop rform rfrm rkind rmask rmtch : Nat) (ho : OFS op form frm kind = some ⟨rop, rform, rfrm, rkind, rmask, rmtch, 6⟩) (y0 : decide (31 < (rd : Int)) = false) (y1 : decide (31 < (rs1 : Int)) = false) (y2 : decide (31 < (rs2 : Int)) = false) (y3 : decide (31 < (rs3 : Int)) = false) (y4 : decide (7 < (rm : Int)) = false) (y5 : ((rm : Int) == 5) = false) (y6 : ((rm : Int) == 6) = false) (y7 : decide (imm < -2048) = false) (y8 : decide (2047 < imm) = false) (y9 : decide (3 < (csr : Int)) = false) (z0 : ((rs2 : Int) != 0) = true) : Calls Try.prog 27 #[.agg (instV ⟨op, form, frm, kind, rd, rs1, rs2, rs3, rm, imm, csr⟩)] W fun e w' => e = .returned (.bool false) ∧ Below W.heap.size W w' := by
  have HF : Hid (∀ X, Calls Try.prog 59 #[.int .u8 6] X fun e w' => e = .returned (.agg (hasV ⟨true, false, false, true, false, false⟩)) ∧ Below X.heap.size X w') := Lib.hid (fun X => fields_c X 6 (by decide))
  have HC := Lib.hid (rof_is ⟨op, form, frm, kind, rd, rs1, rs2, rs3, rm, imm, csr⟩ (some ⟨rop, rform, rfrm, rkind, rmask, rmtch, 6⟩) ho)
  simp only [] at HC
  clear ho
  have K0 := Lib.hid (Blk.new W (instV ⟨op, form, frm, kind, rd, rs1, rs2, rs3, rm, imm, csr⟩) 27)
  have B0 := Lib.hid ((Below.refl W.heap.size W).alloc (Nat.le_refl _) (.cells (instV ⟨op, form, frm, kind, rd, rs1, rs2, rs3, rm, imm, csr⟩) 27))
  go_enter Try.func27, Try.ntmps27
  go_wp2_with (first
    | (go_at_call 47; (with_reducible refine (HC.out _).mono ?_); rintro e w1 ⟨⟨rr, nn, c, rfl, rfl, rfl⟩, b1⟩; clear HC; have n6 := (Blk.new w1 (entV ⟨rop, rform, rfrm, rkind, rmask, rmtch, 6⟩ nn) 42).cell 6; simp only [List.getElem?_toArray, List.getElem?_cons_succ, List.getElem?_cons_zero] at n6)
    | (go_at_call 59; (with_reducible refine (HF.out _).mono ?_); rintro e w2 ⟨rfl, b2⟩; clear HF; have kx := (((K0.out.call b1).alloc (.cells (entV ⟨rop, rform, rfrm, rkind, rmask, rmtch, 6⟩ nn) 42)).call b2).alloc (.cells (hasV ⟨true, false, false, true, false, false⟩) 106); have c4 := kx.cell 4; have c5 := kx.cell 5; have c6 := kx.cell 6; have c7 := kx.cell 7; have c8 := kx.cell 8; have c9 := kx.cell 9; have c10 := kx.cell 10; have kh := Blk.new w2 (hasV ⟨true, false, false, true, false, false⟩) 106; have h0 := kh.cell 0; have h1 := kh.cell 1; have h2 := kh.cell 2; have h3 := kh.cell 3; have h4 := kh.cell 4; have h5 := kh.cell 5; simp only [List.getElem?_toArray, List.getElem?_cons_succ, List.getElem?_cons_zero] at c4 c5 c6 c7 c8 c9 c10 h0 h1 h2 h3 h4 h5))
  go_ret
  have e1 := (below_call B0.out b1).alloc (below_call B0.out b1).size (.cells (entV ⟨rop, rform, rfrm, rkind, rmask, rmtch, 6⟩ nn) 42)
  have e2 := (below_call e1 b2).alloc (below_call e1 b2).size (.cells (hasV ⟨true, false, false, true, false, false⟩) 106)
  exact ⟨rfl, e2⟩
theorem rmay_6_1 (W : World) (op form frm kind rd rs1 rs2 rs3 rm : Nat) (imm : Int) (csr : Nat) (rop rform rfrm rkind rmask rmtch : Nat) (ho : OFS op form frm kind = some ⟨rop, rform, rfrm, rkind, rmask, rmtch, 6⟩) (y0 : decide (31 < (rd : Int)) = false) (y1 : decide (31 < (rs1 : Int)) = false) (y2 : decide (31 < (rs2 : Int)) = false) (y3 : decide (31 < (rs3 : Int)) = false) (y4 : decide (7 < (rm : Int)) = false) (y5 : ((rm : Int) == 5) = false) (y6 : ((rm : Int) == 6) = false) (y7 : decide (imm < -2048) = false) (y8 : decide (2047 < imm) = false) (y9 : decide (3 < (csr : Int)) = false) (z0 : ((rs2 : Int) != 0) = false) (z1 : ((rs3 : Int) != 0) = true) : Calls Try.prog 27 #[.agg (instV ⟨op, form, frm, kind, rd, rs1, rs2, rs3, rm, imm, csr⟩)] W fun e w' => e = .returned (.bool false) ∧ Below W.heap.size W w' := by
  have HF : Hid (∀ X, Calls Try.prog 59 #[.int .u8 6] X fun e w' => e = .returned (.agg (hasV ⟨true, false, false, true, false, false⟩)) ∧ Below X.heap.size X w') := Lib.hid (fun X => fields_c X 6 (by decide))
  have HC := Lib.hid (rof_is ⟨op, form, frm, kind, rd, rs1, rs2, rs3, rm, imm, csr⟩ (some ⟨rop, rform, rfrm, rkind, rmask, rmtch, 6⟩) ho)
  simp only [] at HC
  clear ho
  have K0 := Lib.hid (Blk.new W (instV ⟨op, form, frm, kind, rd, rs1, rs2, rs3, rm, imm, csr⟩) 27)
  have B0 := Lib.hid ((Below.refl W.heap.size W).alloc (Nat.le_refl _) (.cells (instV ⟨op, form, frm, kind, rd, rs1, rs2, rs3, rm, imm, csr⟩) 27))
  go_enter Try.func27, Try.ntmps27
  go_wp2_with (first
    | (go_at_call 47; (with_reducible refine (HC.out _).mono ?_); rintro e w1 ⟨⟨rr, nn, c, rfl, rfl, rfl⟩, b1⟩; clear HC; have n6 := (Blk.new w1 (entV ⟨rop, rform, rfrm, rkind, rmask, rmtch, 6⟩ nn) 42).cell 6; simp only [List.getElem?_toArray, List.getElem?_cons_succ, List.getElem?_cons_zero] at n6)
    | (go_at_call 59; (with_reducible refine (HF.out _).mono ?_); rintro e w2 ⟨rfl, b2⟩; clear HF; have kx := (((K0.out.call b1).alloc (.cells (entV ⟨rop, rform, rfrm, rkind, rmask, rmtch, 6⟩ nn) 42)).call b2).alloc (.cells (hasV ⟨true, false, false, true, false, false⟩) 106); have c4 := kx.cell 4; have c5 := kx.cell 5; have c6 := kx.cell 6; have c7 := kx.cell 7; have c8 := kx.cell 8; have c9 := kx.cell 9; have c10 := kx.cell 10; have kh := Blk.new w2 (hasV ⟨true, false, false, true, false, false⟩) 106; have h0 := kh.cell 0; have h1 := kh.cell 1; have h2 := kh.cell 2; have h3 := kh.cell 3; have h4 := kh.cell 4; have h5 := kh.cell 5; simp only [List.getElem?_toArray, List.getElem?_cons_succ, List.getElem?_cons_zero] at c4 c5 c6 c7 c8 c9 c10 h0 h1 h2 h3 h4 h5))
  go_ret
  have e1 := (below_call B0.out b1).alloc (below_call B0.out b1).size (.cells (entV ⟨rop, rform, rfrm, rkind, rmask, rmtch, 6⟩ nn) 42)
  have e2 := (below_call e1 b2).alloc (below_call e1 b2).size (.cells (hasV ⟨true, false, false, true, false, false⟩) 106)
  exact ⟨rfl, e2⟩
theorem rmay_6_2 (W : World) (op form frm kind rd rs1 rs2 rs3 rm : Nat) (imm : Int) (csr : Nat) (rop rform rfrm rkind rmask rmtch : Nat) (ho : OFS op form frm kind = some ⟨rop, rform, rfrm, rkind, rmask, rmtch, 6⟩) (y0 : decide (31 < (rd : Int)) = false) (y1 : decide (31 < (rs1 : Int)) = false) (y2 : decide (31 < (rs2 : Int)) = false) (y3 : decide (31 < (rs3 : Int)) = false) (y4 : decide (7 < (rm : Int)) = false) (y5 : ((rm : Int) == 5) = false) (y6 : ((rm : Int) == 6) = false) (y7 : decide (imm < -2048) = false) (y8 : decide (2047 < imm) = false) (y9 : decide (3 < (csr : Int)) = false) (z0 : ((rs2 : Int) != 0) = false) (z1 : ((rs3 : Int) != 0) = false) (z2 : (imm != 0) = true) : Calls Try.prog 27 #[.agg (instV ⟨op, form, frm, kind, rd, rs1, rs2, rs3, rm, imm, csr⟩)] W fun e w' => e = .returned (.bool false) ∧ Below W.heap.size W w' := by
  have HF : Hid (∀ X, Calls Try.prog 59 #[.int .u8 6] X fun e w' => e = .returned (.agg (hasV ⟨true, false, false, true, false, false⟩)) ∧ Below X.heap.size X w') := Lib.hid (fun X => fields_c X 6 (by decide))
  have HC := Lib.hid (rof_is ⟨op, form, frm, kind, rd, rs1, rs2, rs3, rm, imm, csr⟩ (some ⟨rop, rform, rfrm, rkind, rmask, rmtch, 6⟩) ho)
  simp only [] at HC
  clear ho
  have K0 := Lib.hid (Blk.new W (instV ⟨op, form, frm, kind, rd, rs1, rs2, rs3, rm, imm, csr⟩) 27)
  have B0 := Lib.hid ((Below.refl W.heap.size W).alloc (Nat.le_refl _) (.cells (instV ⟨op, form, frm, kind, rd, rs1, rs2, rs3, rm, imm, csr⟩) 27))
  go_enter Try.func27, Try.ntmps27
  go_wp2_with (first
    | (go_at_call 47; (with_reducible refine (HC.out _).mono ?_); rintro e w1 ⟨⟨rr, nn, c, rfl, rfl, rfl⟩, b1⟩; clear HC; have n6 := (Blk.new w1 (entV ⟨rop, rform, rfrm, rkind, rmask, rmtch, 6⟩ nn) 42).cell 6; simp only [List.getElem?_toArray, List.getElem?_cons_succ, List.getElem?_cons_zero] at n6)
    | (go_at_call 59; (with_reducible refine (HF.out _).mono ?_); rintro e w2 ⟨rfl, b2⟩; clear HF; have kx := (((K0.out.call b1).alloc (.cells (entV ⟨rop, rform, rfrm, rkind, rmask, rmtch, 6⟩ nn) 42)).call b2).alloc (.cells (hasV ⟨true, false, false, true, false, false⟩) 106); have c4 := kx.cell 4; have c5 := kx.cell 5; have c6 := kx.cell 6; have c7 := kx.cell 7; have c8 := kx.cell 8; have c9 := kx.cell 9; have c10 := kx.cell 10; have kh := Blk.new w2 (hasV ⟨true, false, false, true, false, false⟩) 106; have h0 := kh.cell 0; have h1 := kh.cell 1; have h2 := kh.cell 2; have h3 := kh.cell 3; have h4 := kh.cell 4; have h5 := kh.cell 5; simp only [List.getElem?_toArray, List.getElem?_cons_succ, List.getElem?_cons_zero] at c4 c5 c6 c7 c8 c9 c10 h0 h1 h2 h3 h4 h5))
  go_ret
  have e1 := (below_call B0.out b1).alloc (below_call B0.out b1).size (.cells (entV ⟨rop, rform, rfrm, rkind, rmask, rmtch, 6⟩ nn) 42)
  have e2 := (below_call e1 b2).alloc (below_call e1 b2).size (.cells (hasV ⟨true, false, false, true, false, false⟩) 106)
  exact ⟨rfl, e2⟩
theorem rmay_6_ok (W : World) (op form frm kind rd rs1 rs2 rs3 rm : Nat) (imm : Int) (csr : Nat) (rop rform rfrm rkind rmask rmtch : Nat) (ho : OFS op form frm kind = some ⟨rop, rform, rfrm, rkind, rmask, rmtch, 6⟩) (y0 : decide (31 < (rd : Int)) = false) (y1 : decide (31 < (rs1 : Int)) = false) (y2 : decide (31 < (rs2 : Int)) = false) (y3 : decide (31 < (rs3 : Int)) = false) (y4 : decide (7 < (rm : Int)) = false) (y5 : ((rm : Int) == 5) = false) (y6 : ((rm : Int) == 6) = false) (y7 : decide (imm < -2048) = false) (y8 : decide (2047 < imm) = false) (y9 : decide (3 < (csr : Int)) = false) (z0 : ((rs2 : Int) != 0) = false) (z1 : ((rs3 : Int) != 0) = false) (z2 : (imm != 0) = false) (b : Bool) (zc : ((csr : Int) != 0) = b) : Calls Try.prog 27 #[.agg (instV ⟨op, form, frm, kind, rd, rs1, rs2, rs3, rm, imm, csr⟩)] W fun e w' => e = .returned (.bool (false == b)) ∧ Below W.heap.size W w' := by
  have HF : Hid (∀ X, Calls Try.prog 59 #[.int .u8 6] X fun e w' => e = .returned (.agg (hasV ⟨true, false, false, true, false, false⟩)) ∧ Below X.heap.size X w') := Lib.hid (fun X => fields_c X 6 (by decide))
  have HC := Lib.hid (rof_is ⟨op, form, frm, kind, rd, rs1, rs2, rs3, rm, imm, csr⟩ (some ⟨rop, rform, rfrm, rkind, rmask, rmtch, 6⟩) ho)
  simp only [] at HC
  clear ho
  have K0 := Lib.hid (Blk.new W (instV ⟨op, form, frm, kind, rd, rs1, rs2, rs3, rm, imm, csr⟩) 27)
  have B0 := Lib.hid ((Below.refl W.heap.size W).alloc (Nat.le_refl _) (.cells (instV ⟨op, form, frm, kind, rd, rs1, rs2, rs3, rm, imm, csr⟩) 27))
  cases b
  all_goals
    go_enter Try.func27, Try.ntmps27
    go_wp2_with (first
      | (go_at_call 47; (with_reducible refine (HC.out _).mono ?_); rintro e w1 ⟨⟨rr, nn, c, rfl, rfl, rfl⟩, b1⟩; clear HC; have n6 := (Blk.new w1 (entV ⟨rop, rform, rfrm, rkind, rmask, rmtch, 6⟩ nn) 42).cell 6; simp only [List.getElem?_toArray, List.getElem?_cons_succ, List.getElem?_cons_zero] at n6)
      | (go_at_call 59; (with_reducible refine (HF.out _).mono ?_); rintro e w2 ⟨rfl, b2⟩; clear HF; have kx := (((K0.out.call b1).alloc (.cells (entV ⟨rop, rform, rfrm, rkind, rmask, rmtch, 6⟩ nn) 42)).call b2).alloc (.cells (hasV ⟨true, false, false, true, false, false⟩) 106); have c4 := kx.cell 4; have c5 := kx.cell 5; have c6 := kx.cell 6; have c7 := kx.cell 7; have c8 := kx.cell 8; have c9 := kx.cell 9; have c10 := kx.cell 10; have kh := Blk.new w2 (hasV ⟨true, false, false, true, false, false⟩) 106; have h0 := kh.cell 0; have h1 := kh.cell 1; have h2 := kh.cell 2; have h3 := kh.cell 3; have h4 := kh.cell 4; have h5 := kh.cell 5; simp only [List.getElem?_toArray, List.getElem?_cons_succ, List.getElem?_cons_zero] at c4 c5 c6 c7 c8 c9 c10 h0 h1 h2 h3 h4 h5))
    go_ret
    have e1 := (below_call B0.out b1).alloc (below_call B0.out b1).size (.cells (entV ⟨rop, rform, rfrm, rkind, rmask, rmtch, 6⟩ nn) 42)
    have e2 := (below_call e1 b2).alloc (below_call e1 b2).size (.cells (hasV ⟨true, false, false, true, false, false⟩) 106)
    exact ⟨rfl, e2⟩
end Go.Proofs.Yteelconabmfnkaa

/- abacusref25.May: by the layout. -/
namespace Go.Proofs.Yteelconabmfnkaa
open Go Go.RowKit
set_option maxHeartbeats 4000000
set_option maxRecDepth 100000
set_option linter.unusedVariables false
set_option linter.unusedSimpArgs false
theorem rmay_7_0 (W : World) (op form frm kind rd rs1 rs2 rs3 rm : Nat) (imm : Int) (csr : Nat) (rop rform rfrm rkind rmask rmtch : Nat) (ho : OFS op form frm kind = some ⟨rop, rform, rfrm, rkind, rmask, rmtch, 7⟩) (y0 : decide (31 < (rd : Int)) = false) (y1 : decide (31 < (rs1 : Int)) = false) (y2 : decide (31 < (rs2 : Int)) = false) (y3 : decide (31 < (rs3 : Int)) = false) (y4 : decide (7 < (rm : Int)) = false) (y5 : ((rm : Int) == 5) = false) (y6 : ((rm : Int) == 6) = false) (y7 : decide (imm < -2048) = false) (y8 : decide (2047 < imm) = false) (y9 : decide (3 < (csr : Int)) = false) (z0 : ((rs2 : Int) != 0) = true) : Calls Try.prog 27 #[.agg (instV ⟨op, form, frm, kind, rd, rs1, rs2, rs3, rm, imm, csr⟩)] W fun e w' => e = .returned (.bool false) ∧ Below W.heap.size W w' := by
  have HF : Hid (∀ X, Calls Try.prog 59 #[.int .u8 7] X fun e w' => e = .returned (.agg (hasV ⟨true, false, false, false, false, false⟩)) ∧ Below X.heap.size X w') := Lib.hid (fun X => fields_c X 7 (by decide))
  have HC := Lib.hid (rof_is ⟨op, form, frm, kind, rd, rs1, rs2, rs3, rm, imm, csr⟩ (some ⟨rop, rform, rfrm, rkind, rmask, rmtch, 7⟩) ho)
  simp only [] at HC
  clear ho
  have K0 := Lib.hid (Blk.new W (instV ⟨op, form, frm, kind, rd, rs1, rs2, rs3, rm, imm, csr⟩) 27)
  have B0 := Lib.hid ((Below.refl W.heap.size W).alloc (Nat.le_refl _) (.cells (instV ⟨op, form, frm, kind, rd, rs1, rs2, rs3, rm, imm, csr⟩) 27))
  go_enter Try.func27, Try.ntmps27
  go_wp2_with (first
    | (go_at_call 47; (with_reducible refine (HC.out _).mono ?_); rintro e w1 ⟨⟨rr, nn, c, rfl, rfl, rfl⟩, b1⟩; clear HC; have n6 := (Blk.new w1 (entV ⟨rop, rform, rfrm, rkind, rmask, rmtch, 7⟩ nn) 42).cell 6; simp only [List.getElem?_toArray, List.getElem?_cons_succ, List.getElem?_cons_zero] at n6)
    | (go_at_call 59; (with_reducible refine (HF.out _).mono ?_); rintro e w2 ⟨rfl, b2⟩; clear HF; have kx := (((K0.out.call b1).alloc (.cells (entV ⟨rop, rform, rfrm, rkind, rmask, rmtch, 7⟩ nn) 42)).call b2).alloc (.cells (hasV ⟨true, false, false, false, false, false⟩) 106); have c4 := kx.cell 4; have c5 := kx.cell 5; have c6 := kx.cell 6; have c7 := kx.cell 7; have c8 := kx.cell 8; have c9 := kx.cell 9; have c10 := kx.cell 10; have kh := Blk.new w2 (hasV ⟨true, false, false, false, false, false⟩) 106; have h0 := kh.cell 0; have h1 := kh.cell 1; have h2 := kh.cell 2; have h3 := kh.cell 3; have h4 := kh.cell 4; have h5 := kh.cell 5; simp only [List.getElem?_toArray, List.getElem?_cons_succ, List.getElem?_cons_zero] at c4 c5 c6 c7 c8 c9 c10 h0 h1 h2 h3 h4 h5))
  go_ret
  have e1 := (below_call B0.out b1).alloc (below_call B0.out b1).size (.cells (entV ⟨rop, rform, rfrm, rkind, rmask, rmtch, 7⟩ nn) 42)
  have e2 := (below_call e1 b2).alloc (below_call e1 b2).size (.cells (hasV ⟨true, false, false, false, false, false⟩) 106)
  exact ⟨rfl, e2⟩
theorem rmay_7_1 (W : World) (op form frm kind rd rs1 rs2 rs3 rm : Nat) (imm : Int) (csr : Nat) (rop rform rfrm rkind rmask rmtch : Nat) (ho : OFS op form frm kind = some ⟨rop, rform, rfrm, rkind, rmask, rmtch, 7⟩) (y0 : decide (31 < (rd : Int)) = false) (y1 : decide (31 < (rs1 : Int)) = false) (y2 : decide (31 < (rs2 : Int)) = false) (y3 : decide (31 < (rs3 : Int)) = false) (y4 : decide (7 < (rm : Int)) = false) (y5 : ((rm : Int) == 5) = false) (y6 : ((rm : Int) == 6) = false) (y7 : decide (imm < -2048) = false) (y8 : decide (2047 < imm) = false) (y9 : decide (3 < (csr : Int)) = false) (z0 : ((rs2 : Int) != 0) = false) (z1 : ((rs3 : Int) != 0) = true) : Calls Try.prog 27 #[.agg (instV ⟨op, form, frm, kind, rd, rs1, rs2, rs3, rm, imm, csr⟩)] W fun e w' => e = .returned (.bool false) ∧ Below W.heap.size W w' := by
  have HF : Hid (∀ X, Calls Try.prog 59 #[.int .u8 7] X fun e w' => e = .returned (.agg (hasV ⟨true, false, false, false, false, false⟩)) ∧ Below X.heap.size X w') := Lib.hid (fun X => fields_c X 7 (by decide))
  have HC := Lib.hid (rof_is ⟨op, form, frm, kind, rd, rs1, rs2, rs3, rm, imm, csr⟩ (some ⟨rop, rform, rfrm, rkind, rmask, rmtch, 7⟩) ho)
  simp only [] at HC
  clear ho
  have K0 := Lib.hid (Blk.new W (instV ⟨op, form, frm, kind, rd, rs1, rs2, rs3, rm, imm, csr⟩) 27)
  have B0 := Lib.hid ((Below.refl W.heap.size W).alloc (Nat.le_refl _) (.cells (instV ⟨op, form, frm, kind, rd, rs1, rs2, rs3, rm, imm, csr⟩) 27))
  go_enter Try.func27, Try.ntmps27
  go_wp2_with (first
    | (go_at_call 47; (with_reducible refine (HC.out _).mono ?_); rintro e w1 ⟨⟨rr, nn, c, rfl, rfl, rfl⟩, b1⟩; clear HC; have n6 := (Blk.new w1 (entV ⟨rop, rform, rfrm, rkind, rmask, rmtch, 7⟩ nn) 42).cell 6; simp only [List.getElem?_toArray, List.getElem?_cons_succ, List.getElem?_cons_zero] at n6)
    | (go_at_call 59; (with_reducible refine (HF.out _).mono ?_); rintro e w2 ⟨rfl, b2⟩; clear HF; have kx := (((K0.out.call b1).alloc (.cells (entV ⟨rop, rform, rfrm, rkind, rmask, rmtch, 7⟩ nn) 42)).call b2).alloc (.cells (hasV ⟨true, false, false, false, false, false⟩) 106); have c4 := kx.cell 4; have c5 := kx.cell 5; have c6 := kx.cell 6; have c7 := kx.cell 7; have c8 := kx.cell 8; have c9 := kx.cell 9; have c10 := kx.cell 10; have kh := Blk.new w2 (hasV ⟨true, false, false, false, false, false⟩) 106; have h0 := kh.cell 0; have h1 := kh.cell 1; have h2 := kh.cell 2; have h3 := kh.cell 3; have h4 := kh.cell 4; have h5 := kh.cell 5; simp only [List.getElem?_toArray, List.getElem?_cons_succ, List.getElem?_cons_zero] at c4 c5 c6 c7 c8 c9 c10 h0 h1 h2 h3 h4 h5))
  go_ret
  have e1 := (below_call B0.out b1).alloc (below_call B0.out b1).size (.cells (entV ⟨rop, rform, rfrm, rkind, rmask, rmtch, 7⟩ nn) 42)
  have e2 := (below_call e1 b2).alloc (below_call e1 b2).size (.cells (hasV ⟨true, false, false, false, false, false⟩) 106)
  exact ⟨rfl, e2⟩
theorem rmay_7_2 (W : World) (op form frm kind rd rs1 rs2 rs3 rm : Nat) (imm : Int) (csr : Nat) (rop rform rfrm rkind rmask rmtch : Nat) (ho : OFS op form frm kind = some ⟨rop, rform, rfrm, rkind, rmask, rmtch, 7⟩) (y0 : decide (31 < (rd : Int)) = false) (y1 : decide (31 < (rs1 : Int)) = false) (y2 : decide (31 < (rs2 : Int)) = false) (y3 : decide (31 < (rs3 : Int)) = false) (y4 : decide (7 < (rm : Int)) = false) (y5 : ((rm : Int) == 5) = false) (y6 : ((rm : Int) == 6) = false) (y7 : decide (imm < -2048) = false) (y8 : decide (2047 < imm) = false) (y9 : decide (3 < (csr : Int)) = false) (z0 : ((rs2 : Int) != 0) = false) (z1 : ((rs3 : Int) != 0) = false) (z2 : ((rm : Int) != 0) = true) : Calls Try.prog 27 #[.agg (instV ⟨op, form, frm, kind, rd, rs1, rs2, rs3, rm, imm, csr⟩)] W fun e w' => e = .returned (.bool false) ∧ Below W.heap.size W w' := by
  have HF : Hid (∀ X, Calls Try.prog 59 #[.int .u8 7] X fun e w' => e = .returned (.agg (hasV ⟨true, false, false, false, false, false⟩)) ∧ Below X.heap.size X w') := Lib.hid (fun X => fields_c X 7 (by decide))
  have HC := Lib.hid (rof_is ⟨op, form, frm, kind, rd, rs1, rs2, rs3, rm, imm, csr⟩ (some ⟨rop, rform, rfrm, rkind, rmask, rmtch, 7⟩) ho)
  simp only [] at HC
  clear ho
  have K0 := Lib.hid (Blk.new W (instV ⟨op, form, frm, kind, rd, rs1, rs2, rs3, rm, imm, csr⟩) 27)
  have B0 := Lib.hid ((Below.refl W.heap.size W).alloc (Nat.le_refl _) (.cells (instV ⟨op, form, frm, kind, rd, rs1, rs2, rs3, rm, imm, csr⟩) 27))
  go_enter Try.func27, Try.ntmps27
  go_wp2_with (first
    | (go_at_call 47; (with_reducible refine (HC.out _).mono ?_); rintro e w1 ⟨⟨rr, nn, c, rfl, rfl, rfl⟩, b1⟩; clear HC; have n6 := (Blk.new w1 (entV ⟨rop, rform, rfrm, rkind, rmask, rmtch, 7⟩ nn) 42).cell 6; simp only [List.getElem?_toArray, List.getElem?_cons_succ, List.getElem?_cons_zero] at n6)
    | (go_at_call 59; (with_reducible refine (HF.out _).mono ?_); rintro e w2 ⟨rfl, b2⟩; clear HF; have kx := (((K0.out.call b1).alloc (.cells (entV ⟨rop, rform, rfrm, rkind, rmask, rmtch, 7⟩ nn) 42)).call b2).alloc (.cells (hasV ⟨true, false, false, false, false, false⟩) 106); have c4 := kx.cell 4; have c5 := kx.cell 5; have c6 := kx.cell 6; have c7 := kx.cell 7; have c8 := kx.cell 8; have c9 := kx.cell 9; have c10 := kx.cell 10; have kh := Blk.new w2 (hasV ⟨true, false, false, false, false, false⟩) 106; have h0 := kh.cell 0; have h1 := kh.cell 1; have h2 := kh.cell 2; have h3 := kh.cell 3; have h4 := kh.cell 4; have h5 := kh.cell 5; simp only [List.getElem?_toArray, List.getElem?_cons_succ, List.getElem?_cons_zero] at c4 c5 c6 c7 c8 c9 c10 h0 h1 h2 h3 h4 h5))
  go_ret
  have e1 := (below_call B0.out b1).alloc (below_call B0.out b1).size (.cells (entV ⟨rop, rform, rfrm, rkind, rmask, rmtch, 7⟩ nn) 42)
  have e2 := (below_call e1 b2).alloc (below_call e1 b2).size (.cells (hasV ⟨true, false, false, false, false, false⟩) 106)
  exact ⟨rfl, e2⟩
theorem rmay_7_3 (W : World) (op form frm kind rd rs1 rs2 rs3 rm : Nat) (imm : Int) (csr : Nat) (rop rform rfrm rkind rmask rmtch : Nat) (ho : OFS op form frm kind = some ⟨rop, rform, rfrm, rkind, rmask, rmtch, 7⟩) (y0 : decide (31 < (rd : Int)) = false) (y1 : decide (31 < (rs1 : Int)) = false) (y2 : decide (31 < (rs2 : Int)) = false) (y3 : decide (31 < (rs3 : Int)) = false) (y4 : decide (7 < (rm : Int)) = false) (y5 : ((rm : Int) == 5) = false) (y6 : ((rm : Int) == 6) = false) (y7 : decide (imm < -2048) = false) (y8 : decide (2047 < imm) = false) (y9 : decide (3 < (csr : Int)) = false) (z0 : ((rs2 : Int) != 0) = false) (z1 : ((rs3 : Int) != 0) = false) (z2 : ((rm : Int) != 0) = false) (z3 : (imm != 0) = true) : Calls Try.prog 27 #[.agg (instV ⟨op, form, frm, kind, rd, rs1, rs2, rs3, rm, imm, csr⟩)] W fun e w' => e = .returned (.bool false) ∧ Below W.heap.size W w' := by
  have HF : Hid (∀ X, Calls Try.prog 59 #[.int .u8 7] X fun e w' => e = .returned (.agg (hasV ⟨true, false, false, false, false, false⟩)) ∧ Below X.heap.size X w') := Lib.hid (fun X => fields_c X 7 (by decide))
  have HC := Lib.hid (rof_is ⟨op, form, frm, kind, rd, rs1, rs2, rs3, rm, imm, csr⟩ (some ⟨rop, rform, rfrm, rkind, rmask, rmtch, 7⟩) ho)
  simp only [] at HC
  clear ho
  have K0 := Lib.hid (Blk.new W (instV ⟨op, form, frm, kind, rd, rs1, rs2, rs3, rm, imm, csr⟩) 27)
  have B0 := Lib.hid ((Below.refl W.heap.size W).alloc (Nat.le_refl _) (.cells (instV ⟨op, form, frm, kind, rd, rs1, rs2, rs3, rm, imm, csr⟩) 27))
  go_enter Try.func27, Try.ntmps27
  go_wp2_with (first
    | (go_at_call 47; (with_reducible refine (HC.out _).mono ?_); rintro e w1 ⟨⟨rr, nn, c, rfl, rfl, rfl⟩, b1⟩; clear HC; have n6 := (Blk.new w1 (entV ⟨rop, rform, rfrm, rkind, rmask, rmtch, 7⟩ nn) 42).cell 6; simp only [List.getElem?_toArray, List.getElem?_cons_succ, List.getElem?_cons_zero] at n6)
    | (go_at_call 59; (with_reducible refine (HF.out _).mono ?_); rintro e w2 ⟨rfl, b2⟩; clear HF; have kx := (((K0.out.call b1).alloc (.cells (entV ⟨rop, rform, rfrm, rkind, rmask, rmtch, 7⟩ nn) 42)).call b2).alloc (.cells (hasV ⟨true, false, false, false, false, false⟩) 106); have c4 := kx.cell 4; have c5 := kx.cell 5; have c6 := kx.cell 6; have c7 := kx.cell 7; have c8 := kx.cell 8; have c9 := kx.cell 9; have c10 := kx.cell 10; have kh := Blk.new w2 (hasV ⟨true, false, false, false, false, false⟩) 106; have h0 := kh.cell 0; have h1 := kh.cell 1; have h2 := kh.cell 2; have h3 := kh.cell 3; have h4 := kh.cell 4; have h5 := kh.cell 5; simp only [List.getElem?_toArray, List.getElem?_cons_succ, List.getElem?_cons_zero] at c4 c5 c6 c7 c8 c9 c10 h0 h1 h2 h3 h4 h5))
  go_ret
  have e1 := (below_call B0.out b1).alloc (below_call B0.out b1).size (.cells (entV ⟨rop, rform, rfrm, rkind, rmask, rmtch, 7⟩ nn) 42)
  have e2 := (below_call e1 b2).alloc (below_call e1 b2).size (.cells (hasV ⟨true, false, false, false, false, false⟩) 106)
  exact ⟨rfl, e2⟩
theorem rmay_7_ok (W : World) (op form frm kind rd rs1 rs2 rs3 rm : Nat) (imm : Int) (csr : Nat) (rop rform rfrm rkind rmask rmtch : Nat) (ho : OFS op form frm kind = some ⟨rop, rform, rfrm, rkind, rmask, rmtch, 7⟩) (y0 : decide (31 < (rd : Int)) = false) (y1 : decide (31 < (rs1 : Int)) = false) (y2 : decide (31 < (rs2 : Int)) = false) (y3 : decide (31 < (rs3 : Int)) = false) (y4 : decide (7 < (rm : Int)) = false) (y5 : ((rm : Int) == 5) = false) (y6 : ((rm : Int) == 6) = false) (y7 : decide (imm < -2048) = false) (y8 : decide (2047 < imm) = false) (y9 : decide (3 < (csr : Int)) = false) (z0 : ((rs2 : Int) != 0) = false) (z1 : ((rs3 : Int) != 0) = false) (z2 : ((rm : Int) != 0) = false) (z3 : (imm != 0) = false) (b : Bool) (zc : ((csr : Int) != 0) = b) : Calls Try.prog 27 #[.agg (instV ⟨op, form, frm, kind, rd, rs1, rs2, rs3, rm, imm, csr⟩)] W fun e w' => e = .returned (.bool (false == b)) ∧ Below W.heap.size W w' := by
  have HF : Hid (∀ X, Calls Try.prog 59 #[.int .u8 7] X fun e w' => e = .returned (.agg (hasV ⟨true, false, false, false, false, false⟩)) ∧ Below X.heap.size X w') := Lib.hid (fun X => fields_c X 7 (by decide))
  have HC := Lib.hid (rof_is ⟨op, form, frm, kind, rd, rs1, rs2, rs3, rm, imm, csr⟩ (some ⟨rop, rform, rfrm, rkind, rmask, rmtch, 7⟩) ho)
  simp only [] at HC
  clear ho
  have K0 := Lib.hid (Blk.new W (instV ⟨op, form, frm, kind, rd, rs1, rs2, rs3, rm, imm, csr⟩) 27)
  have B0 := Lib.hid ((Below.refl W.heap.size W).alloc (Nat.le_refl _) (.cells (instV ⟨op, form, frm, kind, rd, rs1, rs2, rs3, rm, imm, csr⟩) 27))
  cases b
  all_goals
    go_enter Try.func27, Try.ntmps27
    go_wp2_with (first
      | (go_at_call 47; (with_reducible refine (HC.out _).mono ?_); rintro e w1 ⟨⟨rr, nn, c, rfl, rfl, rfl⟩, b1⟩; clear HC; have n6 := (Blk.new w1 (entV ⟨rop, rform, rfrm, rkind, rmask, rmtch, 7⟩ nn) 42).cell 6; simp only [List.getElem?_toArray, List.getElem?_cons_succ, List.getElem?_cons_zero] at n6)
      | (go_at_call 59; (with_reducible refine (HF.out _).mono ?_); rintro e w2 ⟨rfl, b2⟩; clear HF; have kx := (((K0.out.call b1).alloc (.cells (entV ⟨rop, rform, rfrm, rkind, rmask, rmtch, 7⟩ nn) 42)).call b2).alloc (.cells (hasV ⟨true, false, false, false, false, false⟩) 106); have c4 := kx.cell 4; have c5 := kx.cell 5; have c6 := kx.cell 6; have c7 := kx.cell 7; have c8 := kx.cell 8; have c9 := kx.cell 9; have c10 := kx.cell 10; have kh := Blk.new w2 (hasV ⟨true, false, false, false, false, false⟩) 106; have h0 := kh.cell 0; have h1 := kh.cell 1; have h2 := kh.cell 2; have h3 := kh.cell 3; have h4 := kh.cell 4; have h5 := kh.cell 5; simp only [List.getElem?_toArray, List.getElem?_cons_succ, List.getElem?_cons_zero] at c4 c5 c6 c7 c8 c9 c10 h0 h1 h2 h3 h4 h5))
    go_ret
    have e1 := (below_call B0.out b1).alloc (below_call B0.out b1).size (.cells (entV ⟨rop, rform, rfrm, rkind, rmask, rmtch, 7⟩ nn) 42)
    have e2 := (below_call e1 b2).alloc (below_call e1 b2).size (.cells (hasV ⟨true, false, false, false, false, false⟩) 106)
    exact ⟨rfl, e2⟩
theorem rmay_8_0 (W : World) (op form frm kind rd rs1 rs2 rs3 rm : Nat) (imm : Int) (csr : Nat) (rop rform rfrm rkind rmask rmtch : Nat) (ho : OFS op form frm kind = some ⟨rop, rform, rfrm, rkind, rmask, rmtch, 8⟩) (y0 : decide (31 < (rd : Int)) = false) (y1 : decide (31 < (rs1 : Int)) = false) (y2 : decide (31 < (rs2 : Int)) = false) (y3 : decide (31 < (rs3 : Int)) = false) (y4 : decide (7 < (rm : Int)) = false) (y5 : ((rm : Int) == 5) = false) (y6 : ((rm : Int) == 6) = false) (y7 : decide (imm < -2048) = false) (y8 : decide (2047 < imm) = false) (y9 : decide (3 < (csr : Int)) = false) (z0 : ((rs2 : Int) != 0) = true) : Calls Try.prog 27 #[.agg (instV ⟨op, form, frm, kind, rd, rs1, rs2, rs3, rm, imm, csr⟩)] W fun e w' => e = .returned (.bool false) ∧ Below W.heap.size W w' := by
  have HF : Hid (∀ X, Calls Try.prog 59 #[.int .u8 8] X fun e w' => e = .returned (.agg (hasV ⟨true, false, false, false, false, true⟩)) ∧ Below X.heap.size X w') := Lib.hid (fun X => fields_c X 8 (by decide))
  have HC := Lib.hid (rof_is ⟨op, form, frm, kind, rd, rs1, rs2, rs3, rm, imm, csr⟩ (some ⟨rop, rform, rfrm, rkind, rmask, rmtch, 8⟩) ho)
  simp only [] at HC
  clear ho
  have K0 := Lib.hid (Blk.new W (instV ⟨op, form, frm, kind, rd, rs1, rs2, rs3, rm, imm, csr⟩) 27)
  have B0 := Lib.hid ((Below.refl W.heap.size W).alloc (Nat.le_refl _) (.cells (instV ⟨op, form, frm, kind, rd, rs1, rs2, rs3, rm, imm, csr⟩) 27))
  go_enter Try.func27, Try.ntmps27
  go_wp2_with (first
    | (go_at_call 47; (with_reducible refine (HC.out _).mono ?_); rintro e w1 ⟨⟨rr, nn, c, rfl, rfl, rfl⟩, b1⟩; clear HC; have n6 := (Blk.new w1 (entV ⟨rop, rform, rfrm, rkind, rmask, rmtch, 8⟩ nn) 42).cell 6; simp only [List.getElem?_toArray, List.getElem?_cons_succ, List.getElem?_cons_zero] at n6)
    | (go_at_call 59; (with_reducible refine (HF.out _).mono ?_); rintro e w2 ⟨rfl, b2⟩; clear HF; have kx := (((K0.out.call b1).alloc (.cells (entV ⟨rop, rform, rfrm, rkind, rmask, rmtch, 8⟩ nn) 42)).call b2).alloc (.cells (hasV ⟨true, false, false, false, false, true⟩) 106); have c4 := kx.cell 4; have c5 := kx.cell 5; have c6 := kx.cell 6; have c7 := kx.cell 7; have c8 := kx.cell 8; have c9 := kx.cell 9; have c10 := kx.cell 10; have kh := Blk.new w2 (hasV ⟨true, false, false, false, false, true⟩) 106; have h0 := kh.cell 0; have h1 := kh.cell 1; have h2 := kh.cell 2; have h3 := kh.cell 3; have h4 := kh.cell 4; have h5 := kh.cell 5; simp only [List.getElem?_toArray, List.getElem?_cons_succ, List.getElem?_cons_zero] at c4 c5 c6 c7 c8 c9 c10 h0 h1 h2 h3 h4 h5))
  go_ret
  have e1 := (below_call B0.out b1).alloc (below_call B0.out b1).size (.cells (entV ⟨rop, rform, rfrm, rkind, rmask, rmtch, 8⟩ nn) 42)
  have e2 := (below_call e1 b2).alloc (below_call e1 b2).size (.cells (hasV ⟨true, false, false, false, false, true⟩) 106)
  exact ⟨rfl, e2⟩
theorem rmay_8_1 (W : World) (op form frm kind rd rs1 rs2 rs3 rm : Nat) (imm : Int) (csr : Nat) (rop rform rfrm rkind rmask rmtch : Nat) (ho : OFS op form frm kind = some ⟨rop, rform, rfrm, rkind, rmask, rmtch, 8⟩) (y0 : decide (31 < (rd : Int)) = false) (y1 : decide (31 < (rs1 : Int)) = false) (y2 : decide (31 < (rs2 : Int)) = false) (y3 : decide (31 < (rs3 : Int)) = false) (y4 : decide (7 < (rm : Int)) = false) (y5 : ((rm : Int) == 5) = false) (y6 : ((rm : Int) == 6) = false) (y7 : decide (imm < -2048) = false) (y8 : decide (2047 < imm) = false) (y9 : decide (3 < (csr : Int)) = false) (z0 : ((rs2 : Int) != 0) = false) (z1 : ((rs3 : Int) != 0) = true) : Calls Try.prog 27 #[.agg (instV ⟨op, form, frm, kind, rd, rs1, rs2, rs3, rm, imm, csr⟩)] W fun e w' => e = .returned (.bool false) ∧ Below W.heap.size W w' := by
  have HF : Hid (∀ X, Calls Try.prog 59 #[.int .u8 8] X fun e w' => e = .returned (.agg (hasV ⟨true, false, false, false, false, true⟩)) ∧ Below X.heap.size X w') := Lib.hid (fun X => fields_c X 8 (by decide))
  have HC := Lib.hid (rof_is ⟨op, form, frm, kind, rd, rs1, rs2, rs3, rm, imm, csr⟩ (some ⟨rop, rform, rfrm, rkind, rmask, rmtch, 8⟩) ho)
  simp only [] at HC
  clear ho
  have K0 := Lib.hid (Blk.new W (instV ⟨op, form, frm, kind, rd, rs1, rs2, rs3, rm, imm, csr⟩) 27)
  have B0 := Lib.hid ((Below.refl W.heap.size W).alloc (Nat.le_refl _) (.cells (instV ⟨op, form, frm, kind, rd, rs1, rs2, rs3, rm, imm, csr⟩) 27))
  go_enter Try.func27, Try.ntmps27
  go_wp2_with (first
    | (go_at_call 47; (with_reducible refine (HC.out _).mono ?_); rintro e w1 ⟨⟨rr, nn, c, rfl, rfl, rfl⟩, b1⟩; clear HC; have n6 := (Blk.new w1 (entV ⟨rop, rform, rfrm, rkind, rmask, rmtch, 8⟩ nn) 42).cell 6; simp only [List.getElem?_toArray, List.getElem?_cons_succ, List.getElem?_cons_zero] at n6)
    | (go_at_call 59; (with_reducible refine (HF.out _).mono ?_); rintro e w2 ⟨rfl, b2⟩; clear HF; have kx := (((K0.out.call b1).alloc (.cells (entV ⟨rop, rform, rfrm, rkind, rmask, rmtch, 8⟩ nn) 42)).call b2).alloc (.cells (hasV ⟨true, false, false, false, false, true⟩) 106); have c4 := kx.cell 4; have c5 := kx.cell 5; have c6 := kx.cell 6; have c7 := kx.cell 7; have c8 := kx.cell 8; have c9 := kx.cell 9; have c10 := kx.cell 10; have kh := Blk.new w2 (hasV ⟨true, false, false, false, false, true⟩) 106; have h0 := kh.cell 0; have h1 := kh.cell 1; have h2 := kh.cell 2; have h3 := kh.cell 3; have h4 := kh.cell 4; have h5 := kh.cell 5; simp only [List.getElem?_toArray, List.getElem?_cons_succ, List.getElem?_cons_zero] at c4 c5 c6 c7 c8 c9 c10 h0 h1 h2 h3 h4 h5))
  go_ret
  have e1 := (below_call B0.out b1).alloc (below_call B0.out b1).size (.cells (entV ⟨rop, rform, rfrm, rkind, rmask, rmtch, 8⟩ nn) 42)
  have e2 := (below_call e1 b2).alloc (below_call e1 b2).size (.cells (hasV ⟨true, false, false, false, false, true⟩) 106)
  exact ⟨rfl, e2⟩
theorem rmay_8_2 (W : World) (op form frm kind rd rs1 rs2 rs3 rm : Nat) (imm : Int) (csr : Nat) (rop rform rfrm rkind rmask rmtch : Nat) (ho : OFS op form frm kind = some ⟨rop, rform, rfrm, rkind, rmask, rmtch, 8⟩) (y0 : decide (31 < (rd : Int)) = false) (y1 : decide (31 < (rs1 : Int)) = false) (y2 : decide (31 < (rs2 : Int)) = false) (y3 : decide (31 < (rs3 : Int)) = false) (y4 : decide (7 < (rm : Int)) = false) (y5 : ((rm : Int) == 5) = false) (y6 : ((rm : Int) == 6) = false) (y7 : decide (imm < -2048) = false) (y8 : decide (2047 < imm) = false) (y9 : decide (3 < (csr : Int)) = false) (z0 : ((rs2 : Int) != 0) = false) (z1 : ((rs3 : Int) != 0) = false) (z2 : ((rm : Int) != 0) = true) : Calls Try.prog 27 #[.agg (instV ⟨op, form, frm, kind, rd, rs1, rs2, rs3, rm, imm, csr⟩)] W fun e w' => e = .returned (.bool false) ∧ Below W.heap.size W w' := by
  have HF : Hid (∀ X, Calls Try.prog 59 #[.int .u8 8] X fun e w' => e = .returned (.agg (hasV ⟨true, false, false, false, false, true⟩)) ∧ Below X.heap.size X w') := Lib.hid (fun X => fields_c X 8 (by decide))
  have HC := Lib.hid (rof_is ⟨op, form, frm, kind, rd, rs1, rs2, rs3, rm, imm, csr⟩ (some ⟨rop, rform, rfrm, rkind, rmask, rmtch, 8⟩) ho)
  simp only [] at HC
  clear ho
  have K0 := Lib.hid (Blk.new W (instV ⟨op, form, frm, kind, rd, rs1, rs2, rs3, rm, imm, csr⟩) 27)
  have B0 := Lib.hid ((Below.refl W.heap.size W).alloc (Nat.le_refl _) (.cells (instV ⟨op, form, frm, kind, rd, rs1, rs2, rs3, rm, imm, csr⟩) 27))
  go_enter Try.func27, Try.ntmps27
  go_wp2_with (first
    | (go_at_call 47; (with_reducible refine (HC.out _).mono ?_); rintro e w1 ⟨⟨rr, nn, c, rfl, rfl, rfl⟩, b1⟩; clear HC; have n6 := (Blk.new w1 (entV ⟨rop, rform, rfrm, rkind, rmask, rmtch, 8⟩ nn) 42).cell 6; simp only [List.getElem?_toArray, List.getElem?_cons_succ, List.getElem?_cons_zero] at n6)
    | (go_at_call 59; (with_reducible refine (HF.out _).mono ?_); rintro e w2 ⟨rfl, b2⟩; clear HF; have kx := (((K0.out.call b1).alloc (.cells (entV ⟨rop, rform, rfrm, rkind, rmask, rmtch, 8⟩ nn) 42)).call b2).alloc (.cells (hasV ⟨true, false, false, false, false, true⟩) 106); have c4 := kx.cell 4; have c5 := kx.cell 5; have c6 := kx.cell 6; have c7 := kx.cell 7; have c8 := kx.cell 8; have c9 := kx.cell 9; have c10 := kx.cell 10; have kh := Blk.new w2 (hasV ⟨true, false, false, false, false, true⟩) 106; have h0 := kh.cell 0; have h1 := kh.cell 1; have h2 := kh.cell 2; have h3 := kh.cell 3; have h4 := kh.cell 4; have h5 := kh.cell 5; simp only [List.getElem?_toArray, List.getElem?_cons_succ, List.getElem?_cons_zero] at c4 c5 c6 c7 c8 c9 c10 h0 h1 h2 h3 h4 h5))
  go_ret
  have e1 := (below_call B0.out b1).alloc (below_call B0.out b1).size (.cells (entV ⟨rop, rform, rfrm, rkind, rmask, rmtch, 8⟩ nn) 42)
  have e2 := (below_call e1 b2).alloc (below_call e1 b2).size (.cells (hasV ⟨true, false, false, false, false, true⟩) 106)
  exact ⟨rfl, e2⟩
theorem rmay_8_3 (W : World) (op form frm kind rd rs1 rs2 rs3 rm : Nat) (imm : Int) (csr : Nat) (rop rform rfrm rkind rmask rmtch : Nat) (ho : OFS op form frm kind = some ⟨rop, rform, rfrm, rkind, rmask, rmtch, 8⟩) (y0 : decide (31 < (rd : Int)) = false) (y1 : decide (31 < (rs1 : Int)) = false) (y2 : decide (31 < (rs2 : Int)) = false) (y3 : decide (31 < (rs3 : Int)) = false) (y4 : decide (7 < (rm : Int)) = false) (y5 : ((rm : Int) == 5) = false) (y6 : ((rm : Int) == 6) = false) (y7 : decide (imm < -2048) = false) (y8 : decide (2047 < imm) = false) (y9 : decide (3 < (csr : Int)) = false) (z0 : ((rs2 : Int) != 0) = false) (z1 : ((rs3 : Int) != 0) = false) (z2 : ((rm : Int) != 0) = false) (z3 : (imm != 0) = true) : Calls Try.prog 27 #[.agg (instV ⟨op, form, frm, kind, rd, rs1, rs2, rs3, rm, imm, csr⟩)] W fun e w' => e = .returned (.bool false) ∧ Below W.heap.size W w' := by
  have HF : Hid (∀ X, Calls Try.prog 59 #[.int .u8 8] X fun e w' => e = .returned (.agg (hasV ⟨true, false, false, false, false, true⟩)) ∧ Below X.heap.size X w') := Lib.hid (fun X => fields_c X 8 (by decide))
  have HC := Lib.hid (rof_is ⟨op, form, frm, kind, rd, rs1, rs2, rs3, rm, imm, csr⟩ (some ⟨rop, rform, rfrm, rkind, rmask, rmtch, 8⟩) ho)
  simp only [] at HC
  clear ho
  have K0 := Lib.hid (Blk.new W (instV ⟨op, form, frm, kind, rd, rs1, rs2, rs3, rm, imm, csr⟩) 27)
  have B0 := Lib.hid ((Below.refl W.heap.size W).alloc (Nat.le_refl _) (.cells (instV ⟨op, form, frm, kind, rd, rs1, rs2, rs3, rm, imm, csr⟩) 27))
  go_enter Try.func27, Try.ntmps27
  go_wp2_with (first
    | (go_at_call 47; (with_reducible refine (HC.out _).mono ?_); rintro e w1 ⟨⟨rr, nn, c, rfl, rfl, rfl⟩, b1⟩; clear HC; have n6 := (Blk.new w1 (entV ⟨rop, rform, rfrm, rkind, rmask, rmtch, 8⟩ nn) 42).cell 6; simp only [List.getElem?_toArray, List.getElem?_cons_succ, List.getElem?_cons_zero] at n6)
    | (go_at_call 59; (with_reducible refine (HF.out _).mono ?_); rintro e w2 ⟨rfl, b2⟩; clear HF; have kx := (((K0.out.call b1).alloc (.cells (entV ⟨rop, rform, rfrm, rkind, rmask, rmtch, 8⟩ nn) 42)).call b2).alloc (.cells (hasV ⟨true, false, false, false, false, true⟩) 106); have c4 := kx.cell 4; have c5 := kx.cell 5; have c6 := kx.cell 6; have c7 := kx.cell 7; have c8 := kx.cell 8; have c9 := kx.cell 9; have c10 := kx.cell 10; have kh := Blk.new w2 (hasV ⟨true, false, false, false, false, true⟩) 106; have h0 := kh.cell 0; have h1 := kh.cell 1; have h2 := kh.cell 2; have h3 := kh.cell 3; have h4 := kh.cell 4; have h5 := kh.cell 5; simp only [List.getElem?_toArray, List.getElem?_cons_succ, List.getElem?_cons_zero] at c4 c5 c6 c7 c8 c9 c10 h0 h1 h2 h3 h4 h5))
  go_ret
  have e1 := (below_call B0.out b1).alloc (below_call B0.out b1).size (.cells (entV ⟨rop, rform, rfrm, rkind, rmask, rmtch, 8⟩ nn) 42)
  have e2 := (below_call e1 b2).alloc (below_call e1 b2).size (.cells (hasV ⟨true, false, false, false, false, true⟩) 106)
  exact ⟨rfl, e2⟩
theorem rmay_8_ok (W : World) (op form frm kind rd rs1 rs2 rs3 rm : Nat) (imm : Int) (csr : Nat) (rop rform rfrm rkind rmask rmtch : Nat) (ho : OFS op form frm kind = some ⟨rop, rform, rfrm, rkind, rmask, rmtch, 8⟩) (y0 : decide (31 < (rd : Int)) = false) (y1 : decide (31 < (rs1 : Int)) = false) (y2 : decide (31 < (rs2 : Int)) = false) (y3 : decide (31 < (rs3 : Int)) = false) (y4 : decide (7 < (rm : Int)) = false) (y5 : ((rm : Int) == 5) = false) (y6 : ((rm : Int) == 6) = false) (y7 : decide (imm < -2048) = false) (y8 : decide (2047 < imm) = false) (y9 : decide (3 < (csr : Int)) = false) (z0 : ((rs2 : Int) != 0) = false) (z1 : ((rs3 : Int) != 0) = false) (z2 : ((rm : Int) != 0) = false) (z3 : (imm != 0) = false) (b : Bool) (zc : ((csr : Int) != 0) = b) : Calls Try.prog 27 #[.agg (instV ⟨op, form, frm, kind, rd, rs1, rs2, rs3, rm, imm, csr⟩)] W fun e w' => e = .returned (.bool (true == b)) ∧ Below W.heap.size W w' := by
  have HF : Hid (∀ X, Calls Try.prog 59 #[.int .u8 8] X fun e w' => e = .returned (.agg (hasV ⟨true, false, false, false, false, true⟩)) ∧ Below X.heap.size X w') := Lib.hid (fun X => fields_c X 8 (by decide))
  have HC := Lib.hid (rof_is ⟨op, form, frm, kind, rd, rs1, rs2, rs3, rm, imm, csr⟩ (some ⟨rop, rform, rfrm, rkind, rmask, rmtch, 8⟩) ho)
  simp only [] at HC
  clear ho
  have K0 := Lib.hid (Blk.new W (instV ⟨op, form, frm, kind, rd, rs1, rs2, rs3, rm, imm, csr⟩) 27)
  have B0 := Lib.hid ((Below.refl W.heap.size W).alloc (Nat.le_refl _) (.cells (instV ⟨op, form, frm, kind, rd, rs1, rs2, rs3, rm, imm, csr⟩) 27))
  cases b
  all_goals
    go_enter Try.func27, Try.ntmps27
    go_wp2_with (first
      | (go_at_call 47; (with_reducible refine (HC.out _).mono ?_); rintro e w1 ⟨⟨rr, nn, c, rfl, rfl, rfl⟩, b1⟩; clear HC; have n6 := (Blk.new w1 (entV ⟨rop, rform, rfrm, rkind, rmask, rmtch, 8⟩ nn) 42).cell 6; simp only [List.getElem?_toArray, List.getElem?_cons_succ, List.getElem?_cons_zero] at n6)
      | (go_at_call 59; (with_reducible refine (HF.out _).mono ?_); rintro e w2 ⟨rfl, b2⟩; clear HF; have kx := (((K0.out.call b1).alloc (.cells (entV ⟨rop, rform, rfrm, rkind, rmask, rmtch, 8⟩ nn) 42)).call b2).alloc (.cells (hasV ⟨true, false, false, false, false, true⟩) 106); have c4 := kx.cell 4; have c5 := kx.cell 5; have c6 := kx.cell 6; have c7 := kx.cell 7; have c8 := kx.cell 8; have c9 := kx.cell 9; have c10 := kx.cell 10; have kh := Blk.new w2 (hasV ⟨true, false, false, false, false, true⟩) 106; have h0 := kh.cell 0; have h1 := kh.cell 1; have h2 := kh.cell 2; have h3 := kh.cell 3; have h4 := kh.cell 4; have h5 := kh.cell 5; simp only [List.getElem?_toArray, List.getElem?_cons_succ, List.getElem?_cons_zero] at c4 c5 c6 c7 c8 c9 c10 h0 h1 h2 h3 h4 h5))
    go_ret
    have e1 := (below_call B0.out b1).alloc (below_call B0.out b1).size (.cells (entV ⟨rop, rform, rfrm, rkind, rmask, rmtch, 8⟩ nn) 42)
    have e2 := (below_call e1 b2).alloc (below_call e1 b2).size (.cells (hasV ⟨true, false, false, false, false, true⟩) 106)
    exact ⟨rfl, e2⟩
theorem rmay_9_0 (W : World) (op form frm kind rd rs1 rs2 rs3 rm : Nat) (imm : Int) (csr : Nat) (rop rform rfrm rkind rmask rmtch : Nat) (ho : OFS op form frm kind = some ⟨rop, rform, rfrm, rkind, rmask, rmtch, 9⟩) (y0 : decide (31 < (rd : Int)) = false) (y1 : decide (31 < (rs1 : Int)) = false) (y2 : decide (31 < (rs2 : Int)) = false) (y3 : decide (31 < (rs3 : Int)) = false) (y4 : decide (7 < (rm : Int)) = false) (y5 : ((rm : Int) == 5) = false) (y6 : ((rm : Int) == 6) = false) (y7 : decide (imm < -2048) = false) (y8 : decide (2047 < imm) = false) (y9 : decide (3 < (csr : Int)) = false) (z0 : ((rs2 : Int) != 0) = true) : Calls Try.prog 27 #[.agg (instV ⟨op, form, frm, kind, rd, rs1, rs2, rs3, rm, imm, csr⟩)] W fun e w' => e = .returned (.bool false) ∧ Below W.heap.size W w' := by
  have HF : Hid (∀ X, Calls Try.prog 59 #[.int .u8 9] X fun e w' => e = .returned (.agg (hasV ⟨true, false, false, false, false, true⟩)) ∧ Below X.heap.size X w') := Lib.hid (fun X => fields_c X 9 (by decide))
  have HC := Lib.hid (rof_is ⟨op, form, frm, kind, rd, rs1, rs2, rs3, rm, imm, csr⟩ (some ⟨rop, rform, rfrm, rkind, rmask, rmtch, 9⟩) ho)
  simp only [] at HC
  clear ho
  have K0 := Lib.hid (Blk.new W (instV ⟨op, form, frm, kind, rd, rs1, rs2, rs3, rm, imm, csr⟩) 27)
  have B0 := Lib.hid ((Below.refl W.heap.size W).alloc (Nat.le_refl _) (.cells (instV ⟨op, form, frm, kind, rd, rs1, rs2, rs3, rm, imm, csr⟩) 27))
  go_enter Try.func27, Try.ntmps27
  go_wp2_with (first
    | (go_at_call 47; (with_reducible refine (HC.out _).mono ?_); rintro e w1 ⟨⟨rr, nn, c, rfl, rfl, rfl⟩, b1⟩; clear HC; have n6 := (Blk.new w1 (entV ⟨rop, rform, rfrm, rkind, rmask, rmtch, 9⟩ nn) 42).cell 6; simp only [List.getElem?_toArray, List.getElem?_cons_succ, List.getElem?_cons_zero] at n6)
    | (go_at_call 59; (with_reducible refine (HF.out _).mono ?_); rintro e w2 ⟨rfl, b2⟩; clear HF; have kx := (((K0.out.call b1).alloc (.cells (entV ⟨rop, rform, rfrm, rkind, rmask, rmtch, 9⟩ nn) 42)).call b2).alloc (.cells (hasV ⟨true, false, false, false, false, true⟩) 106); have c4 := kx.cell 4; have c5 := kx.cell 5; have c6 := kx.cell 6; have c7 := kx.cell 7; have c8 := kx.cell 8; have c9 := kx.cell 9; have c10 := kx.cell 10; have kh := Blk.new w2 (hasV ⟨true, false, false, false, false, true⟩) 106; have h0 := kh.cell 0; have h1 := kh.cell 1; have h2 := kh.cell 2; have h3 := kh.cell 3; have h4 := kh.cell 4; have h5 := kh.cell 5; simp only [List.getElem?_toArray, List.getElem?_cons_succ, List.getElem?_cons_zero] at c4 c5 c6 c7 c8 c9 c10 h0 h1 h2 h3 h4 h5))
  go_ret
  have e1 := (below_call B0.out b1).alloc (below_call B0.out b1).size (.cells (entV ⟨rop, rform, rfrm, rkind, rmask, rmtch, 9⟩ nn) 42)
  have e2 := (below_call e1 b2).alloc (below_call e1 b2).size (.cells (hasV ⟨true, false, false, false, false, true⟩) 106)
  exact ⟨rfl, e2⟩
theorem rmay_9_1 (W : World) (op form frm kind rd rs1 rs2 rs3 rm : Nat) (imm : Int) (csr : Nat) (rop rform rfrm rkind rmask rmtch : Nat) (ho : OFS op form frm kind = some ⟨rop, rform, rfrm, rkind, rmask, rmtch, 9⟩) (y0 : decide (31 < (rd : Int)) = false) (y1 : decide (31 < (rs1 : Int)) = false) (y2 : decide (31 < (rs2 : Int)) = false) (y3 : decide (31 < (rs3 : Int)) = false) (y4 : decide (7 < (rm : Int)) = false) (y5 : ((rm : Int) == 5) = false) (y6 : ((rm : Int) == 6) = false) (y7 : decide (imm < -2048) = false) (y8 : decide (2047 < imm) = false) (y9 : decide (3 < (csr : Int)) = false) (z0 : ((rs2 : Int) != 0) = false) (z1 : ((rs3 : Int) != 0) = true) : Calls Try.prog 27 #[.agg (instV ⟨op, form, frm, kind, rd, rs1, rs2, rs3, rm, imm, csr⟩)] W fun e w' => e = .returned (.bool false) ∧ Below W.heap.size W w' := by
  have HF : Hid (∀ X, Calls Try.prog 59 #[.int .u8 9] X fun e w' => e = .returned (.agg (hasV ⟨true, false, false, false, false, true⟩)) ∧ Below X.heap.size X w') := Lib.hid (fun X => fields_c X 9 (by decide))
  have HC := Lib.hid (rof_is ⟨op, form, frm, kind, rd, rs1, rs2, rs3, rm, imm, csr⟩ (some ⟨rop, rform, rfrm, rkind, rmask, rmtch, 9⟩) ho)
  simp only [] at HC
  clear ho
  have K0 := Lib.hid (Blk.new W (instV ⟨op, form, frm, kind, rd, rs1, rs2, rs3, rm, imm, csr⟩) 27)
  have B0 := Lib.hid ((Below.refl W.heap.size W).alloc (Nat.le_refl _) (.cells (instV ⟨op, form, frm, kind, rd, rs1, rs2, rs3, rm, imm, csr⟩) 27))
  go_enter Try.func27, Try.ntmps27
  go_wp2_with (first
    | (go_at_call 47; (with_reducible refine (HC.out _).mono ?_); rintro e w1 ⟨⟨rr, nn, c, rfl, rfl, rfl⟩, b1⟩; clear HC; have n6 := (Blk.new w1 (entV ⟨rop, rform, rfrm, rkind, rmask, rmtch, 9⟩ nn) 42).cell 6; simp only [List.getElem?_toArray, List.getElem?_cons_succ, List.getElem?_cons_zero] at n6)
    | (go_at_call 59; (with_reducible refine (HF.out _).mono ?_); rintro e w2 ⟨rfl, b2⟩; clear HF; have kx := (((K0.out.call b1).alloc (.cells (entV ⟨rop, rform, rfrm, rkind, rmask, rmtch, 9⟩ nn) 42)).call b2).alloc (.cells (hasV ⟨true, false, false, false, false, true⟩) 106); have c4 := kx.cell 4; have c5 := kx.cell 5; have c6 := kx.cell 6; have c7 := kx.cell 7; have c8 := kx.cell 8; have c9 := kx.cell 9; have c10 := kx.cell 10; have kh := Blk.new w2 (hasV ⟨true, false, false, false, false, true⟩) 106; have h0 := kh.cell 0; have h1 := kh.cell 1; have h2 := kh.cell 2; have h3 := kh.cell 3; have h4 := kh.cell 4; have h5 := kh.cell 5; simp only [List.getElem?_toArray, List.getElem?_cons_succ, List.getElem?_cons_zero] at c4 c5 c6 c7 c8 c9 c10 h0 h1 h2 h3 h4 h5))
  go_ret
  have e1 := (below_call B0.out b1).alloc (below_call B0.out b1).size (.cells (entV ⟨rop, rform, rfrm, rkind, rmask, rmtch, 9⟩ nn) 42)
  have e2 := (below_call e1 b2).alloc (below_call e1 b2).size (.cells (hasV ⟨true, false, false, false, false, true⟩) 106)
  exact ⟨rfl, e2⟩
theorem rmay_9_2 (W : World) (op form frm kind rd rs1 rs2 rs3 rm : Nat) (imm : Int) (csr : Nat) (rop rform rfrm rkind rmask rmtch : Nat) (ho : OFS op form frm kind = some ⟨rop, rform, rfrm, rkind, rmask, rmtch, 9⟩) (y0 : decide (31 < (rd : Int)) = false) (y1 : decide (31 < (rs1 : Int)) = false) (y2 : decide (31 < (rs2 : Int)) = false) (y3 : decide (31 < (rs3 : Int)) = false) (y4 : decide (7 < (rm : Int)) = false) (y5 : ((rm : Int) == 5) = false) (y6 : ((rm : Int) == 6) = false) (y7 : decide (imm < -2048) = false) (y8 : decide (2047 < imm) = false) (y9 : decide (3 < (csr : Int)) = false) (z0 : ((rs2 : Int) != 0) = false) (z1 : ((rs3 : Int) != 0) = false) (z2 : ((rm : Int) != 0) = true) : Calls Try.prog 27 #[.agg (instV ⟨op, form, frm, kind, rd, rs1, rs2, rs3, rm, imm, csr⟩)] W fun e w' => e = .returned (.bool false) ∧ Below W.heap.size W w' := by
  have HF : Hid (∀ X, Calls Try.prog 59 #[.int .u8 9] X fun e w' => e = .returned (.agg (hasV ⟨true, false, false, false, false, true⟩)) ∧ Below X.heap.size X w') := Lib.hid (fun X => fields_c X 9 (by decide))
  have HC := Lib.hid (rof_is ⟨op, form, frm, kind, rd, rs1, rs2, rs3, rm, imm, csr⟩ (some ⟨rop, rform, rfrm, rkind, rmask, rmtch, 9⟩) ho)
  simp only [] at HC
  clear ho
  have K0 := Lib.hid (Blk.new W (instV ⟨op, form, frm, kind, rd, rs1, rs2, rs3, rm, imm, csr⟩) 27)
  have B0 := Lib.hid ((Below.refl W.heap.size W).alloc (Nat.le_refl _) (.cells (instV ⟨op, form, frm, kind, rd, rs1, rs2, rs3, rm, imm, csr⟩) 27))
  go_enter Try.func27, Try.ntmps27
  go_wp2_with (first
    | (go_at_call 47; (with_reducible refine (HC.out _).mono ?_); rintro e w1 ⟨⟨rr, nn, c, rfl, rfl, rfl⟩, b1⟩; clear HC; have n6 := (Blk.new w1 (entV ⟨rop, rform, rfrm, rkind, rmask, rmtch, 9⟩ nn) 42).cell 6; simp only [List.getElem?_toArray, List.getElem?_cons_succ, List.getElem?_cons_zero] at n6)
    | (go_at_call 59; (with_reducible refine (HF.out _).mono ?_); rintro e w2 ⟨rfl, b2⟩; clear HF; have kx := (((K0.out.call b1).alloc (.cells (entV ⟨rop, rform, rfrm, rkind, rmask, rmtch, 9⟩ nn) 42)).call b2).alloc (.cells (hasV ⟨true, false, false, false, false, true⟩) 106); have c4 := kx.cell 4; have c5 := kx.cell 5; have c6 := kx.cell 6; have c7 := kx.cell 7; have c8 := kx.cell 8; have c9 := kx.cell 9; have c10 := kx.cell 10; have kh := Blk.new w2 (hasV ⟨true, false, false, false, false, true⟩) 106; have h0 := kh.cell 0; have h1 := kh.cell 1; have h2 := kh.cell 2; have h3 := kh.cell 3; have h4 := kh.cell 4; have h5 := kh.cell 5; simp only [List.getElem?_toArray, List.getElem?_cons_succ, List.getElem?_cons_zero] at c4 c5 c6 c7 c8 c9 c10 h0 h1 h2 h3 h4 h5))
  go_ret
  have e1 := (below_call B0.out b1).alloc (below_call B0.out b1).size (.cells (entV ⟨rop, rform, rfrm, rkind, rmask, rmtch, 9⟩ nn) 42)
  have e2 := (below_call e1 b2).alloc (below_call e1 b2).size (.cells (hasV ⟨true, false, false, false, false, true⟩) 106)
  exact ⟨rfl, e2⟩
theorem rmay_9_3 (W : World) (op form frm kind rd rs1 rs2 rs3 rm : Nat) (imm : Int) (csr : Nat) (rop rform rfrm rkind rmask rmtch : Nat) (ho : OFS op form frm kind = some ⟨rop, rform, rfrm, rkind, rmask, rmtch, 9⟩) (y0 : decide (31 < (rd : Int)) = false) (y1 : decide (31 < (rs1 : Int)) = false) (y2 : decide (31 < (rs2 : Int)) = false) (y3 : decide (31 < (rs3 : Int)) = false) (y4 : decide (7 < (rm : Int)) = false) (y5 : ((rm : Int) == 5) = false) (y6 : ((rm : Int) == 6) = false) (y7 : decide (imm < -2048) = false) (y8 : decide (2047 < imm) = false) (y9 : decide (3 < (csr : Int)) = false) (z0 : ((rs2 : Int) != 0) = false) (z1 : ((rs3 : Int) != 0) = false) (z2 : ((rm : Int) != 0) = false) (z3 : (imm != 0) = true) : Calls Try.prog 27 #[.agg (instV ⟨op, form, frm, kind, rd, rs1, rs2, rs3, rm, imm, csr⟩)] W fun e w' => e = .returned (.bool false) ∧ Below W.heap.size W w' := by
  have HF : Hid (∀ X, Calls Try.prog 59 #[.int .u8 9] X fun e w' => e = .returned (.agg (hasV ⟨true, false, false, false, false, true⟩)) ∧ Below X.heap.size X w') := Lib.hid (fun X => fields_c X 9 (by decide))
  have HC := Lib.hid (rof_is ⟨op, form, frm, kind, rd, rs1, rs2, rs3, rm, imm, csr⟩ (some ⟨rop, rform, rfrm, rkind, rmask, rmtch, 9⟩) ho)
  simp only [] at HC
  clear ho
  have K0 := Lib.hid (Blk.new W (instV ⟨op, form, frm, kind, rd, rs1, rs2, rs3, rm, imm, csr⟩) 27)
  have B0 := Lib.hid ((Below.refl W.heap.size W).alloc (Nat.le_refl _) (.cells (instV ⟨op, form, frm, kind, rd, rs1, rs2, rs3, rm, imm, csr⟩) 27))
  go_enter Try.func27, Try.ntmps27
  go_wp2_with (first
    | (go_at_call 47; (with_reducible refine (HC.out _).mono ?_); rintro e w1 ⟨⟨rr, nn, c, rfl, rfl, rfl⟩, b1⟩; clear HC; have n6 := (Blk.new w1 (entV ⟨rop, rform, rfrm, rkind, rmask, rmtch, 9⟩ nn) 42).cell 6; simp only [List.getElem?_toArray, List.getElem?_cons_succ, List.getElem?_cons_zero] at n6)
    | (go_at_call 59; (with_reducible refine (HF.out _).mono ?_); rintro e w2 ⟨rfl, b2⟩; clear HF; have kx := (((K0.out.call b1).alloc (.cells (entV ⟨rop, rform, rfrm, rkind, rmask, rmtch, 9⟩ nn) 42)).call b2).alloc (.cells (hasV ⟨true, false, false, false, false, true⟩) 106); have c4 := kx.cell 4; have c5 := kx.cell 5; have c6 := kx.cell 6; have c7 := kx.cell 7; have c8 := kx.cell 8; have c9 := kx.cell 9; have c10 := kx.cell 10; have kh := Blk.new w2 (hasV ⟨true, false, false, false, false, true⟩) 106; have h0 := kh.cell 0; have h1 := kh.cell 1; have h2 := kh.cell 2; have h3 := kh.cell 3; have h4 := kh.cell 4; have h5 := kh.cell 5; simp only [List.getElem?_toArray, List.getElem?_cons_succ, List.getElem?_cons_zero] at c4 c5 c6 c7 c8 c9 c10 h0 h1 h2 h3 h4 h5))
  go_ret
  have e1 := (below_call B0.out b1).alloc (below_call B0.out b1).size (.cells (entV ⟨rop, rform, rfrm, rkind, rmask, rmtch, 9⟩ nn) 42)
  have e2 := (below_call e1 b2).alloc (below_call e1 b2).size (.cells (hasV ⟨true, false, false, false, false, true⟩) 106)
  exact ⟨rfl, e2⟩
theorem rmay_9_ok (W : World) (op form frm kind rd rs1 rs2 rs3 rm : Nat) (imm : Int) (csr : Nat) (rop rform rfrm rkind rmask rmtch : Nat) (ho : OFS op form frm kind = some ⟨rop, rform, rfrm, rkind, rmask, rmtch, 9⟩) (y0 : decide (31 < (rd : Int)) = false) (y1 : decide (31 < (rs1 : Int)) = false) (y2 : decide (31 < (rs2 : Int)) = false) (y3 : decide (31 < (rs3 : Int)) = false) (y4 : decide (7 < (rm : Int)) = false) (y5 : ((rm : Int) == 5) = false) (y6 : ((rm : Int) == 6) = false) (y7 : decide (imm < -2048) = false) (y8 : decide (2047 < imm) = false) (y9 : decide (3 < (csr : Int)) = false) (z0 : ((rs2 : Int) != 0) = false) (z1 : ((rs3 : Int) != 0) = false) (z2 : ((rm : Int) != 0) = false) (z3 : (imm != 0) = false) (b : Bool) (zc : ((csr : Int) != 0) = b) : Calls Try.prog 27 #[.agg (instV ⟨op, form, frm, kind, rd, rs1, rs2, rs3, rm, imm, csr⟩)] W fun e w' => e = .returned (.bool (true == b)) ∧ Below W.heap.size W w' := by
  have HF : Hid (∀ X, Calls Try.prog 59 #[.int .u8 9] X fun e w' => e = .returned (.agg (hasV ⟨true, false, false, false, false, true⟩)) ∧ Below X.heap.size X w') := Lib.hid (fun X => fields_c X 9 (by decide))
  have HC := Lib.hid (rof_is ⟨op, form, frm, kind, rd, rs1, rs2, rs3, rm, imm, csr⟩ (some ⟨rop, rform, rfrm, rkind, rmask, rmtch, 9⟩) ho)
  simp only [] at HC
  clear ho
  have K0 := Lib.hid (Blk.new W (instV ⟨op, form, frm, kind, rd, rs1, rs2, rs3, rm, imm, csr⟩) 27)
  have B0 := Lib.hid ((Below.refl W.heap.size W).alloc (Nat.le_refl _) (.cells (instV ⟨op, form, frm, kind, rd, rs1, rs2, rs3, rm, imm, csr⟩) 27))
  cases b
  all_goals
    go_enter Try.func27, Try.ntmps27
    go_wp2_with (first
      | (go_at_call 47; (with_reducible refine (HC.out _).mono ?_); rintro e w1 ⟨⟨rr, nn, c, rfl, rfl, rfl⟩, b1⟩; clear HC; have n6 := (Blk.new w1 (entV ⟨rop, rform, rfrm, rkind, rmask, rmtch, 9⟩ nn) 42).cell 6; simp only [List.getElem?_toArray, List.getElem?_cons_succ, List.getElem?_cons_zero] at n6)
      | (go_at_call 59; (with_reducible refine (HF.out _).mono ?_); rintro e w2 ⟨rfl, b2⟩; clear HF; have kx := (((K0.out.call b1).alloc (.cells (entV ⟨rop, rform, rfrm, rkind, rmask, rmtch, 9⟩ nn) 42)).call b2).alloc (.cells (hasV ⟨true, false, false, false, false, true⟩) 106); have c4 := kx.cell 4; have c5 := kx.cell 5; have c6 := kx.cell 6; have c7 := kx.cell 7; have c8 := kx.cell 8; have c9 := kx.cell 9; have c10 := kx.cell 10; have kh := Blk.new w2 (hasV ⟨true, false, false, false, false, true⟩) 106; have h0 := kh.cell 0; have h1 := kh.cell 1; have h2 := kh.cell 2; have h3 := kh.cell 3; have h4 := kh.cell 4; have h5 := kh.cell 5; simp only [List.getElem?_toArray, List.getElem?_cons_succ, List.getElem?_cons_zero] at c4 c5 c6 c7 c8 c9 c10 h0 h1 h2 h3 h4 h5))
    go_ret
    have e1 := (below_call B0.out b1).alloc (below_call B0.out b1).size (.cells (entV ⟨rop, rform, rfrm, rkind, rmask, rmtch, 9⟩ nn) 42)
    have e2 := (below_call e1 b2).alloc (below_call e1 b2).size (.cells (hasV ⟨true, false, false, false, false, true⟩) 106)
    exact ⟨rfl, e2⟩
end Go.Proofs.Yteelconabmfnkaa

/- abacusref25.May: no row. -/
namespace Go.Proofs.Yteelconabmfnkaa
open Go Go.RowKit
set_option maxHeartbeats 4000000
set_option maxRecDepth 100000
set_option linter.unusedVariables false
set_option linter.unusedSimpArgs false
theorem rmay_none (W : World) (x : I11) (ho : OFS x.op x.form x.frm x.kind = none) : Calls Try.prog 27 #[.agg (instV x)] W fun e w' => e = .returned (.bool false) ∧ Below W.heap.size W w' := by
  have HC := Lib.hid (rof_is x none ho)
  clear ho
  obtain ⟨op, form, frm, kind, rd, rs1, rs2, rs3, rm, imm, csr⟩ := x
  simp only [] at HC
  have B0 := Lib.hid ((Below.refl W.heap.size W).alloc (Nat.le_refl _) (.cells (instV ⟨op, form, frm, kind, rd, rs1, rs2, rs3, rm, imm, csr⟩) 27))
  go_enter Try.func27, Try.ntmps27
  go_wp2_with (first
    | (go_at_call 47; (with_reducible refine (HC.out _).mono ?_); rintro e w1 ⟨⟨rr, nn, c, rfl, hc⟩, b1⟩; have hz : (c != 0) = true := (by rcases hc with rfl | rfl <;> rfl); clear hc HC))
  go_ret
  have e1 := (below_call B0.out b1).alloc (below_call B0.out b1).size (.cells (entV rr nn) 42)
  exact ⟨rfl, e1⟩
end Go.Proofs.Yteelconabmfnkaa

/- abacusref25.May: its contract. -/
namespace Go.Proofs.Yteelconabmfnkaa
open Go Go.RowKit
set_option maxHeartbeats 4000000
set_option maxRecDepth 100000
set_option linter.unusedVariables false
theorem may_eq {x : I11} {r : R7} (ho : OFS x.op x.form x.frm x.kind = some r) : MAY x = (inB x && zeroB r.lay x) := by
  obtain ⟨hr, o1, o2, o3, o4⟩ := of_ops ho
  have F := row_fine r hr
  rw [Bool.eq_iff_iff, rmay_mays ⟨F.lay1, F.lay2⟩]
  constructor
  · intro h
    obtain ⟨q, hq, hqo, _, _, _, _, M, _⟩ := may_row h
    rw [ho] at hqo
    cases hqo
    exact M
  · exact fun M => (word_of hr o1 o2 o3 o4 M).1
theorem rmay_some (W : World) (x : I11) (r : R7) (ho : OFS x.op x.form x.frm x.kind = some r) (hl : r.lay = 1 ∨ r.lay = 2 ∨ r.lay = 3 ∨ r.lay = 4 ∨ r.lay = 5 ∨ r.lay = 6 ∨ r.lay = 7 ∨ r.lay = 8 ∨ r.lay = 9) : Calls Try.prog 27 #[.agg (instV x)] W fun e w' => e = .returned (.bool (inB x && zeroB r.lay x)) ∧ Below W.heap.size W w' := by
  obtain ⟨op, form, frm, kind, rd, rs1, rs2, rs3, rm, imm, csr⟩ := x
  obtain ⟨rop, rform, rfrm, rkind, rmask, rmtch, lay⟩ := r
  simp only [] at ho hl ⊢
  by_cases q0 : rd < 32
  rotate_left
  · rw [show inB ⟨op, form, frm, kind, rd, rs1, rs2, rs3, rm, imm, csr⟩ = false from by simp [inB]; omega, Bool.false_and]
    exact rmay_b0 _ _ _ _ _ _ _ _ _ _ _ _ _ _ _ _ _ _ _ ho hl (decide_eq_true (by omega))
  by_cases q1 : rs1 < 32
  rotate_left
  · rw [show inB ⟨op, form, frm, kind, rd, rs1, rs2, rs3, rm, imm, csr⟩ = false from by simp [inB]; omega, Bool.false_and]
    exact rmay_b1 _ _ _ _ _ _ _ _ _ _ _ _ _ _ _ _ _ _ _ ho hl (decide_eq_false (by omega)) (decide_eq_true (by omega))
  by_cases q2 : rs2 < 32
  rotate_left
  · rw [show inB ⟨op, form, frm, kind, rd, rs1, rs2, rs3, rm, imm, csr⟩ = false from by simp [inB]; omega, Bool.false_and]
    exact rmay_b2 _ _ _ _ _ _ _ _ _ _ _ _ _ _ _ _ _ _ _ ho hl (decide_eq_false (by omega)) (decide_eq_false (by omega)) (decide_eq_true (by omega))
  by_cases q3 : rs3 < 32
  rotate_left
  · rw [show inB ⟨op, form, frm, kind, rd, rs1, rs2, rs3, rm, imm, csr⟩ = false from by simp [inB]; omega, Bool.false_and]
    exact rmay_b3 _ _ _ _ _ _ _ _ _ _ _ _ _ _ _ _ _ _ _ ho hl (decide_eq_false (by omega)) (decide_eq_false (by omega)) (decide_eq_false (by omega)) (decide_eq_true (by omega))
  by_cases q4 : rm < 8
  rotate_left
  · rw [show inB ⟨op, form, frm, kind, rd, rs1, rs2, rs3, rm, imm, csr⟩ = false from by simp [inB]; omega, Bool.false_and]
    exact rmay_b4 _ _ _ _ _ _ _ _ _ _ _ _ _ _ _ _ _ _ _ ho hl (decide_eq_false (by omega)) (decide_eq_false (by omega)) (decide_eq_false (by omega)) (decide_eq_false (by omega)) (decide_eq_true (by omega))
  by_cases q5 : ¬ rm = 5
  rotate_left
  · rw [show inB ⟨op, form, frm, kind, rd, rs1, rs2, rs3, rm, imm, csr⟩ = false from by simp [inB]; omega, Bool.false_and]
    exact rmay_b5 _ _ _ _ _ _ _ _ _ _ _ _ _ _ _ _ _ _ _ ho hl (decide_eq_false (by omega)) (decide_eq_false (by omega)) (decide_eq_false (by omega)) (decide_eq_false (by omega)) (decide_eq_false (by omega)) (by rw [beq_iff_eq]; omega)
  by_cases q6 : ¬ rm = 6
  rotate_left
  · rw [show inB ⟨op, form, frm, kind, rd, rs1, rs2, rs3, rm, imm, csr⟩ = false from by simp [inB]; omega, Bool.false_and]
    exact rmay_b6 _ _ _ _ _ _ _ _ _ _ _ _ _ _ _ _ _ _ _ ho hl (decide_eq_false (by omega)) (decide_eq_false (by omega)) (decide_eq_false (by omega)) (decide_eq_false (by omega)) (decide_eq_false (by omega)) (by rw [beq_eq_false_iff_ne]; omega) (by rw [beq_iff_eq]; omega)
  by_cases q7 : -2048 ≤ imm
  rotate_left
  · rw [show inB ⟨op, form, frm, kind, rd, rs1, rs2, rs3, rm, imm, csr⟩ = false from by simp [inB]; omega, Bool.false_and]
    exact rmay_b7 _ _ _ _ _ _ _ _ _ _ _ _ _ _ _ _ _ _ _ ho hl (decide_eq_false (by omega)) (decide_eq_false (by omega)) (decide_eq_false (by omega)) (decide_eq_false (by omega)) (decide_eq_false (by omega)) (by rw [beq_eq_false_iff_ne]; omega) (by rw [beq_eq_false_iff_ne]; omega) (decide_eq_true (by omega))
  by_cases q8 : imm < 2048
  rotate_left
  · rw [show inB ⟨op, form, frm, kind, rd, rs1, rs2, rs3, rm, imm, csr⟩ = false from by simp [inB]; omega, Bool.false_and]
    exact rmay_b8 _ _ _ _ _ _ _ _ _ _ _ _ _ _ _ _ _ _ _ ho hl (decide_eq_false (by omega)) (decide_eq_false (by omega)) (decide_eq_false (by omega)) (decide_eq_false (by omega)) (decide_eq_false (by omega)) (by rw [beq_eq_false_iff_ne]; omega) (by rw [beq_eq_false_iff_ne]; omega) (decide_eq_false (by omega)) (decide_eq_true (by omega))
  by_cases q9 : csr ≤ 3
  rotate_left
  · rw [show inB ⟨op, form, frm, kind, rd, rs1, rs2, rs3, rm, imm, csr⟩ = false from by simp [inB]; omega, Bool.false_and]
    exact rmay_b9 _ _ _ _ _ _ _ _ _ _ _ _ _ _ _ _ _ _ _ ho hl (decide_eq_false (by omega)) (decide_eq_false (by omega)) (decide_eq_false (by omega)) (decide_eq_false (by omega)) (decide_eq_false (by omega)) (by rw [beq_eq_false_iff_ne]; omega) (by rw [beq_eq_false_iff_ne]; omega) (decide_eq_false (by omega)) (decide_eq_false (by omega)) (decide_eq_true (by omega))
  rw [show inB ⟨op, form, frm, kind, rd, rs1, rs2, rs3, rm, imm, csr⟩ = true from by simp [inB]; omega, Bool.true_and]
  rcases hl with rfl | rfl | rfl | rfl | rfl | rfl | rfl | rfl | rfl
  · skip
    by_cases p0 : rs2 = 0
    rotate_left
    · rw [show zeroB 1 ⟨op, form, frm, kind, rd, rs1, rs2, rs3, rm, imm, csr⟩ = false from by simp [zeroB, HAS]; omega]
      exact rmay_1_0 _ _ _ _ _ _ _ _ _ _ _ _ _ _ _ _ _ _ ho (decide_eq_false (by omega)) (decide_eq_false (by omega)) (decide_eq_false (by omega)) (decide_eq_false (by omega)) (decide_eq_false (by omega)) (by rw [beq_eq_false_iff_ne]; omega) (by rw [beq_eq_false_iff_ne]; omega) (decide_eq_false (by omega)) (decide_eq_false (by omega)) (decide_eq_false (by omega)) (by rw [bne_iff_ne]; omega)
    by_cases p1 : rs3 = 0
    rotate_left
    · rw [show zeroB 1 ⟨op, form, frm, kind, rd, rs1, rs2, rs3, rm, imm, csr⟩ = false from by simp [zeroB, HAS]; omega]
      exact rmay_1_1 _ _ _ _ _ _ _ _ _ _ _ _ _ _ _ _ _ _ ho (decide_eq_false (by omega)) (decide_eq_false (by omega)) (decide_eq_false (by omega)) (decide_eq_false (by omega)) (decide_eq_false (by omega)) (by rw [beq_eq_false_iff_ne]; omega) (by rw [beq_eq_false_iff_ne]; omega) (decide_eq_false (by omega)) (decide_eq_false (by omega)) (decide_eq_false (by omega)) (by rw [bne_eq_false_iff_eq]; omega) (by rw [bne_iff_ne]; omega)
    by_cases p2 : rm = 0
    rotate_left
    · rw [show zeroB 1 ⟨op, form, frm, kind, rd, rs1, rs2, rs3, rm, imm, csr⟩ = false from by simp [zeroB, HAS]; omega]
      exact rmay_1_2 _ _ _ _ _ _ _ _ _ _ _ _ _ _ _ _ _ _ ho (decide_eq_false (by omega)) (decide_eq_false (by omega)) (decide_eq_false (by omega)) (decide_eq_false (by omega)) (decide_eq_false (by omega)) (by rw [beq_eq_false_iff_ne]; omega) (by rw [beq_eq_false_iff_ne]; omega) (decide_eq_false (by omega)) (decide_eq_false (by omega)) (decide_eq_false (by omega)) (by rw [bne_eq_false_iff_eq]; omega) (by rw [bne_eq_false_iff_eq]; omega) (by rw [bne_iff_ne]; omega)
    have := rmay_1_ok W op form frm kind rd rs1 rs2 rs3 rm imm csr rop rform rfrm rkind rmask rmtch ho (decide_eq_false (by omega)) (decide_eq_false (by omega)) (decide_eq_false (by omega)) (decide_eq_false (by omega)) (decide_eq_false (by omega)) (by rw [beq_eq_false_iff_ne]; omega) (by rw [beq_eq_false_iff_ne]; omega) (decide_eq_false (by omega)) (decide_eq_false (by omega)) (decide_eq_false (by omega)) (by rw [bne_eq_false_iff_eq]; omega) (by rw [bne_eq_false_iff_eq]; omega) (by rw [bne_eq_false_iff_eq]; omega) _ rfl
    rw [show zeroB 1 ⟨op, form, frm, kind, rd, rs1, rs2, rs3, rm, imm, csr⟩ = (false == ((csr : Int) != 0)) from by rw [Bool.eq_iff_iff]; simp [zeroB, HAS]; omega]
    exact this
  · skip
    by_cases p0 : rd = 0
    rotate_left
    · rw [show zeroB 2 ⟨op, form, frm, kind, rd, rs1, rs2, rs3, rm, imm, csr⟩ = false from by simp [zeroB, HAS]; omega]
      exact rmay_2_0 _ _ _ _ _ _ _ _ _ _ _ _ _ _ _ _ _ _ ho (decide_eq_false (by omega)) (decide_eq_false (by omega)) (decide_eq_false (by omega)) (decide_eq_false (by omega)) (decide_eq_false (by omega)) (by rw [beq_eq_false_iff_ne]; omega) (by rw [beq_eq_false_iff_ne]; omega) (decide_eq_false (by omega)) (decide_eq_false (by omega)) (decide_eq_false (by omega)) (by rw [bne_iff_ne]; omega)
    by_cases p1 : rs3 = 0
    rotate_left
    · rw [show zeroB 2 ⟨op, form, frm, kind, rd, rs1, rs2, rs3, rm, imm, csr⟩ = false from by simp [zeroB, HAS]; omega]
      exact rmay_2_1 _ _ _ _ _ _ _ _ _ _ _ _ _ _ _ _ _ _ ho (decide_eq_false (by omega)) (decide_eq_false (by omega)) (decide_eq_false (by omega)) (decide_eq_false (by omega)) (decide_eq_false (by omega)) (by rw [beq_eq_false_iff_ne]; omega) (by rw [beq_eq_false_iff_ne]; omega) (decide_eq_false (by omega)) (decide_eq_false (by omega)) (decide_eq_false (by omega)) (by rw [bne_eq_false_iff_eq]; omega) (by rw [bne_iff_ne]; omega)
    by_cases p2 : rm = 0
    rotate_left
    · rw [show zeroB 2 ⟨op, form, frm, kind, rd, rs1, rs2, rs3, rm, imm, csr⟩ = false from by simp [zeroB, HAS]; omega]
      exact rmay_2_2 _ _ _ _ _ _ _ _ _ _ _ _ _ _ _ _ _ _ ho (decide_eq_false (by omega)) (decide_eq_false (by omega)) (decide_eq_false (by omega)) (decide_eq_false (by omega)) (decide_eq_false (by omega)) (by rw [beq_eq_false_iff_ne]; omega) (by rw [beq_eq_false_iff_ne]; omega) (decide_eq_false (by omega)) (decide_eq_false (by omega)) (decide_eq_false (by omega)) (by rw [bne_eq_false_iff_eq]; omega) (by rw [bne_eq_false_iff_eq]; omega) (by rw [bne_iff_ne]; omega)
    have := rmay_2_ok W op form frm kind rd rs1 rs2 rs3 rm imm csr rop rform rfrm rkind rmask rmtch ho (decide_eq_false (by omega)) (decide_eq_false (by omega)) (decide_eq_false (by omega)) (decide_eq_false (by omega)) (decide_eq_false (by omega)) (by rw [beq_eq_false_iff_ne]; omega) (by rw [beq_eq_false_iff_ne]; omega) (decide_eq_false (by omega)) (decide_eq_false (by omega)) (decide_eq_false (by omega)) (by rw [bne_eq_false_iff_eq]; omega) (by rw [bne_eq_false_iff_eq]; omega) (by rw [bne_eq_false_iff_eq]; omega) _ rfl
    rw [show zeroB 2 ⟨op, form, frm, kind, rd, rs1, rs2, rs3, rm, imm, csr⟩ = (false == ((csr : Int) != 0)) from by rw [Bool.eq_iff_iff]; simp [zeroB, HAS]; omega]
    exact this
  · skip
    by_cases p0 : imm = 0
    rotate_left
    · rw [show zeroB 3 ⟨op, form, frm, kind, rd, rs1, rs2, rs3, rm, imm, csr⟩ = false from by simp [zeroB, HAS]; omega]
      exact rmay_3_0 _ _ _ _ _ _ _ _ _ _ _ _ _ _ _ _ _ _ ho (decide_eq_false (by omega)) (decide_eq_false (by omega)) (decide_eq_false (by omega)) (decide_eq_false (by omega)) (decide_eq_false (by omega)) (by rw [beq_eq_false_iff_ne]; omega) (by rw [beq_eq_false_iff_ne]; omega) (decide_eq_false (by omega)) (decide_eq_false (by omega)) (decide_eq_false (by omega)) (by rw [bne_iff_ne]; omega)
    have := rmay_3_ok W op form frm kind rd rs1 rs2 rs3 rm imm csr rop rform rfrm rkind rmask rmtch ho (decide_eq_false (by omega)) (decide_eq_false (by omega)) (decide_eq_false (by omega)) (decide_eq_false (by omega)) (decide_eq_false (by omega)) (by rw [beq_eq_false_iff_ne]; omega) (by rw [beq_eq_false_iff_ne]; omega) (decide_eq_false (by omega)) (decide_eq_false (by omega)) (decide_eq_false (by omega)) (by rw [bne_eq_false_iff_eq]; omega) _ rfl
    rw [show zeroB 3 ⟨op, form, frm, kind, rd, rs1, rs2, rs3, rm, imm, csr⟩ = (false == ((csr : Int) != 0)) from by rw [Bool.eq_iff_iff]; simp [zeroB, HAS]; omega]
    exact this
  · skip
    by_cases p0 : rs3 = 0
    rotate_left
    · rw [show zeroB 4 ⟨op, form, frm, kind, rd, rs1, rs2, rs3, rm, imm, csr⟩ = false from by simp [zeroB, HAS]; omega]
      exact rmay_4_0 _ _ _ _ _ _ _ _ _ _ _ _ _ _ _ _ _ _ ho (decide_eq_false (by omega)) (decide_eq_false (by omega)) (decide_eq_false (by omega)) (decide_eq_false (by omega)) (decide_eq_false (by omega)) (by rw [beq_eq_false_iff_ne]; omega) (by rw [beq_eq_false_iff_ne]; omega) (decide_eq_false (by omega)) (decide_eq_false (by omega)) (decide_eq_false (by omega)) (by rw [bne_iff_ne]; omega)
    by_cases p1 : imm = 0
    rotate_left
    · rw [show zeroB 4 ⟨op, form, frm, kind, rd, rs1, rs2, rs3, rm, imm, csr⟩ = false from by simp [zeroB, HAS]; omega]
      exact rmay_4_1 _ _ _ _ _ _ _ _ _ _ _ _ _ _ _ _ _ _ ho (decide_eq_false (by omega)) (decide_eq_false (by omega)) (decide_eq_false (by omega)) (decide_eq_false (by omega)) (decide_eq_false (by omega)) (by rw [beq_eq_false_iff_ne]; omega) (by rw [beq_eq_false_iff_ne]; omega) (decide_eq_false (by omega)) (decide_eq_false (by omega)) (decide_eq_false (by omega)) (by rw [bne_eq_false_iff_eq]; omega) (by rw [bne_iff_ne]; omega)
    have := rmay_4_ok W op form frm kind rd rs1 rs2 rs3 rm imm csr rop rform rfrm rkind rmask rmtch ho (decide_eq_false (by omega)) (decide_eq_false (by omega)) (decide_eq_false (by omega)) (decide_eq_false (by omega)) (decide_eq_false (by omega)) (by rw [beq_eq_false_iff_ne]; omega) (by rw [beq_eq_false_iff_ne]; omega) (decide_eq_false (by omega)) (decide_eq_false (by omega)) (decide_eq_false (by omega)) (by rw [bne_eq_false_iff_eq]; omega) (by rw [bne_eq_false_iff_eq]; omega) _ rfl
    rw [show zeroB 4 ⟨op, form, frm, kind, rd, rs1, rs2, rs3, rm, imm, csr⟩ = (false == ((csr : Int) != 0)) from by rw [Bool.eq_iff_iff]; simp [zeroB, HAS]; omega]
    exact this
  · skip
    by_cases p0 : rs3 = 0
    rotate_left
    · rw [show zeroB 5 ⟨op, form, frm, kind, rd, rs1, rs2, rs3, rm, imm, csr⟩ = false from by simp [zeroB, HAS]; omega]
      exact rmay_5_0 _ _ _ _ _ _ _ _ _ _ _ _ _ _ _ _ _ _ ho (decide_eq_false (by omega)) (decide_eq_false (by omega)) (decide_eq_false (by omega)) (decide_eq_false (by omega)) (decide_eq_false (by omega)) (by rw [beq_eq_false_iff_ne]; omega) (by rw [beq_eq_false_iff_ne]; omega) (decide_eq_false (by omega)) (decide_eq_false (by omega)) (decide_eq_false (by omega)) (by rw [bne_iff_ne]; omega)
    by_cases p1 : rm = 0
    rotate_left
    · rw [show zeroB 5 ⟨op, form, frm, kind, rd, rs1, rs2, rs3, rm, imm, csr⟩ = false from by simp [zeroB, HAS]; omega]
      exact rmay_5_1 _ _ _ _ _ _ _ _ _ _ _ _ _ _ _ _ _ _ ho (decide_eq_false (by omega)) (decide_eq_false (by omega)) (decide_eq_false (by omega)) (decide_eq_false (by omega)) (decide_eq_false (by omega)) (by rw [beq_eq_false_iff_ne]; omega) (by rw [beq_eq_false_iff_ne]; omega) (decide_eq_false (by omega)) (decide_eq_false (by omega)) (decide_eq_false (by omega)) (by rw [bne_eq_false_iff_eq]; omega) (by rw [bne_iff_ne]; omega)
    by_cases p2 : imm = 0
    rotate_left
    · rw [show zeroB 5 ⟨op, form, frm, kind, rd, rs1, rs2, rs3, rm, imm, csr⟩ = false from by simp [zeroB, HAS]; omega]
      exact rmay_5_2 _ _ _ _ _ _ _ _ _ _ _ _ _ _ _ _ _ _ ho (decide_eq_false (by omega)) (decide_eq_false (by omega)) (decide_eq_false (by omega)) (decide_eq_false (by omega)) (decide_eq_false (by omega)) (by rw [beq_eq_false_iff_ne]; omega) (by rw [beq_eq_false_iff_ne]; omega) (decide_eq_false (by omega)) (decide_eq_false (by omega)) (decide_eq_false (by omega)) (by rw [bne_eq_false_iff_eq]; omega) (by rw [bne_eq_false_iff_eq]; omega) (by rw [bne_iff_ne]; omega)
    have := rmay_5_ok W op form frm kind rd rs1 rs2 rs3 rm imm csr rop rform rfrm rkind rmask rmtch ho (decide_eq_false (by omega)) (decide_eq_false (by omega)) (decide_eq_false (by omega)) (decide_eq_false (by omega)) (decide_eq_false (by omega)) (by rw [beq_eq_false_iff_ne]; omega) (by rw [beq_eq_false_iff_ne]; omega) (decide_eq_false (by omega)) (decide_eq_false (by omega)) (decide_eq_false (by omega)) (by rw [bne_eq_false_iff_eq]; omega) (by rw [bne_eq_false_iff_eq]; omega) (by rw [bne_eq_false_iff_eq]; omega) _ rfl
    rw [show zeroB 5 ⟨op, form, frm, kind, rd, rs1, rs2, rs3, rm, imm, csr⟩ = (false == ((csr : Int) != 0)) from by rw [Bool.eq_iff_iff]; simp [zeroB, HAS]; omega]
    exact this
  · skip
    by_cases p0 : rs2 = 0
    rotate_left
    · rw [show zeroB 6 ⟨op, form, frm, kind, rd, rs1, rs2, rs3, rm, imm, csr⟩ = false from by simp [zeroB, HAS]; omega]
      exact rmay_6_0 _ _ _ _ _ _ _ _ _ _ _ _ _ _ _ _ _ _ ho (decide_eq_false (by omega)) (decide_eq_false (by omega)) (decide_eq_false (by omega)) (decide_eq_false (by omega)) (decide_eq_false (by omega)) (by rw [beq_eq_false_iff_ne]; omega) (by rw [beq_eq_false_iff_ne]; omega) (decide_eq_false (by omega)) (decide_eq_false (by omega)) (decide_eq_false (by omega)) (by rw [bne_iff_ne]; omega)
    by_cases p1 : rs3 = 0
    rotate_left
    · rw [show zeroB 6 ⟨op, form, frm, kind, rd, rs1, rs2, rs3, rm, imm, csr⟩ = false from by simp [zeroB, HAS]; omega]
      exact rmay_6_1 _ _ _ _ _ _ _ _ _ _ _ _ _ _ _ _ _ _ ho (decide_eq_false (by omega)) (decide_eq_false (by omega)) (decide_eq_false (by omega)) (decide_eq_false (by omega)) (decide_eq_false (by omega)) (by rw [beq_eq_false_iff_ne]; omega) (by rw [beq_eq_false_iff_ne]; omega) (decide_eq_false (by omega)) (decide_eq_false (by omega)) (decide_eq_false (by omega)) (by rw [bne_eq_false_iff_eq]; omega) (by rw [bne_iff_ne]; omega)
    by_cases p2 : imm = 0
    rotate_left
    · rw [show zeroB 6 ⟨op, form, frm, kind, rd, rs1, rs2, rs3, rm, imm, csr⟩ = false from by simp [zeroB, HAS]; omega]
      exact rmay_6_2 _ _ _ _ _ _ _ _ _ _ _ _ _ _ _ _ _ _ ho (decide_eq_false (by omega)) (decide_eq_false (by omega)) (decide_eq_false (by omega)) (decide_eq_false (by omega)) (decide_eq_false (by omega)) (by rw [beq_eq_false_iff_ne]; omega) (by rw [beq_eq_false_iff_ne]; omega) (decide_eq_false (by omega)) (decide_eq_false (by omega)) (decide_eq_false (by omega)) (by rw [bne_eq_false_iff_eq]; omega) (by rw [bne_eq_false_iff_eq]; omega) (by rw [bne_iff_ne]; omega)
    have := rmay_6_ok W op form frm kind rd rs1 rs2 rs3 rm imm csr rop rform rfrm rkind rmask rmtch ho (decide_eq_false (by omega)) (decide_eq_false (by omega)) (decide_eq_false (by omega)) (decide_eq_false (by omega)) (decide_eq_false (by omega)) (by rw [beq_eq_false_iff_ne]; omega) (by rw [beq_eq_false_iff_ne]; omega) (decide_eq_false (by omega)) (decide_eq_false (by omega)) (decide_eq_false (by omega)) (by rw [bne_eq_false_iff_eq]; omega) (by rw [bne_eq_false_iff_eq]; omega) (by rw [bne_eq_false_iff_eq]; omega) _ rfl
    rw [show zeroB 6 ⟨op, form, frm, kind, rd, rs1, rs2, rs3, rm, imm, csr⟩ = (false == ((csr : Int) != 0)) from by rw [Bool.eq_iff_iff]; simp [zeroB, HAS]; omega]
    exact this
  · skip
    by_cases p0 : rs2 = 0
    rotate_left
    · rw [show zeroB 7 ⟨op, form, frm, kind, rd, rs1, rs2, rs3, rm, imm, csr⟩ = false from by simp [zeroB, HAS]; omega]
      exact rmay_7_0 _ _ _ _ _ _ _ _ _ _ _ _ _ _ _ _ _ _ ho (decide_eq_false (by omega)) (decide_eq_false (by omega)) (decide_eq_false (by omega)) (decide_eq_false (by omega)) (decide_eq_false (by omega)) (by rw [beq_eq_false_iff_ne]; omega) (by rw [beq_eq_false_iff_ne]; omega) (decide_eq_false (by omega)) (decide_eq_false (by omega)) (decide_eq_false (by omega)) (by rw [bne_iff_ne]; omega)
    by_cases p1 : rs3 = 0
    rotate_left
    · rw [show zeroB 7 ⟨op, form, frm, kind, rd, rs1, rs2, rs3, rm, imm, csr⟩ = false from by simp [zeroB, HAS]; omega]
      exact rmay_7_1 _ _ _ _ _ _ _ _ _ _ _ _ _ _ _ _ _ _ ho (decide_eq_false (by omega)) (decide_eq_false (by omega)) (decide_eq_false (by omega)) (decide_eq_false (by omega)) (decide_eq_false (by omega)) (by rw [beq_eq_false_iff_ne]; omega) (by rw [beq_eq_false_iff_ne]; omega) (decide_eq_false (by omega)) (decide_eq_false (by omega)) (decide_eq_false (by omega)) (by rw [bne_eq_false_iff_eq]; omega) (by rw [bne_iff_ne]; omega)
    by_cases p2 : rm = 0
    rotate_left
    · rw [show zeroB 7 ⟨op, form, frm, kind, rd, rs1, rs2, rs3, rm, imm, csr⟩ = false from by simp [zeroB, HAS]; omega]
      exact rmay_7_2 _ _ _ _ _ _ _ _ _ _ _ _ _ _ _ _ _ _ ho (decide_eq_false (by omega)) (decide_eq_false (by omega)) (decide_eq_false (by omega)) (decide_eq_false (by omega)) (decide_eq_false (by omega)) (by rw [beq_eq_false_iff_ne]; omega) (by rw [beq_eq_false_iff_ne]; omega) (decide_eq_false (by omega)) (decide_eq_false (by omega)) (decide_eq_false (by omega)) (by rw [bne_eq_false_iff_eq]; omega) (by rw [bne_eq_false_iff_eq]; omega) (by rw [bne_iff_ne]; omega)
    by_cases p3 : imm = 0
    rotate_left
    · rw [show zeroB 7 ⟨op, form, frm, kind, rd, rs1, rs2, rs3, rm, imm, csr⟩ = false from by simp [zeroB, HAS]; omega]
      exact rmay_7_3 _ _ _ _ _ _ _ _ _ _ _ _ _ _ _ _ _ _ ho (decide_eq_false (by omega)) (decide_eq_false (by omega)) (decide_eq_false (by omega)) (decide_eq_false (by omega)) (decide_eq_false (by omega)) (by rw [beq_eq_false_iff_ne]; omega) (by rw [beq_eq_false_iff_ne]; omega) (decide_eq_false (by omega)) (decide_eq_false (by omega)) (decide_eq_false (by omega)) (by rw [bne_eq_false_iff_eq]; omega) (by rw [bne_eq_false_iff_eq]; omega) (by rw [bne_eq_false_iff_eq]; omega) (by rw [bne_iff_ne]; omega)
    have := rmay_7_ok W op form frm kind rd rs1 rs2 rs3 rm imm csr rop rform rfrm rkind rmask rmtch ho (decide_eq_false (by omega)) (decide_eq_false (by omega)) (decide_eq_false (by omega)) (decide_eq_false (by omega)) (decide_eq_false (by omega)) (by rw [beq_eq_false_iff_ne]; omega) (by rw [beq_eq_false_iff_ne]; omega) (decide_eq_false (by omega)) (decide_eq_false (by omega)) (decide_eq_false (by omega)) (by rw [bne_eq_false_iff_eq]; omega) (by rw [bne_eq_false_iff_eq]; omega) (by rw [bne_eq_false_iff_eq]; omega) (by rw [bne_eq_false_iff_eq]; omega) _ rfl
    rw [show zeroB 7 ⟨op, form, frm, kind, rd, rs1, rs2, rs3, rm, imm, csr⟩ = (false == ((csr : Int) != 0)) from by rw [Bool.eq_iff_iff]; simp [zeroB, HAS]; omega]
    exact this
  · skip
    by_cases p0 : rs2 = 0
    rotate_left
    · rw [show zeroB 8 ⟨op, form, frm, kind, rd, rs1, rs2, rs3, rm, imm, csr⟩ = false from by simp [zeroB, HAS]; omega]
      exact rmay_8_0 _ _ _ _ _ _ _ _ _ _ _ _ _ _ _ _ _ _ ho (decide_eq_false (by omega)) (decide_eq_false (by omega)) (decide_eq_false (by omega)) (decide_eq_false (by omega)) (decide_eq_false (by omega)) (by rw [beq_eq_false_iff_ne]; omega) (by rw [beq_eq_false_iff_ne]; omega) (decide_eq_false (by omega)) (decide_eq_false (by omega)) (decide_eq_false (by omega)) (by rw [bne_iff_ne]; omega)
    by_cases p1 : rs3 = 0
    rotate_left
    · rw [show zeroB 8 ⟨op, form, frm, kind, rd, rs1, rs2, rs3, rm, imm, csr⟩ = false from by simp [zeroB, HAS]; omega]
      exact rmay_8_1 _ _ _ _ _ _ _ _ _ _ _ _ _ _ _ _ _ _ ho (decide_eq_false (by omega)) (decide_eq_false (by omega)) (decide_eq_false (by omega)) (decide_eq_false (by omega)) (decide_eq_false (by omega)) (by rw [beq_eq_false_iff_ne]; omega) (by rw [beq_eq_false_iff_ne]; omega) (decide_eq_false (by omega)) (decide_eq_false (by omega)) (decide_eq_false (by omega)) (by rw [bne_eq_false_iff_eq]; omega) (by rw [bne_iff_ne]; omega)
    by_cases p2 : rm = 0
    rotate_left
    · rw [show zeroB 8 ⟨op, form, frm, kind, rd, rs1, rs2, rs3, rm, imm, csr⟩ = false from by simp [zeroB, HAS]; omega]
      exact rmay_8_2 _ _ _ _ _ _ _ _ _ _ _ _ _ _ _ _ _ _ ho (decide_eq_false (by omega)) (decide_eq_false (by omega)) (decide_eq_false (by omega)) (decide_eq_false (by omega)) (decide_eq_false (by omega)) (by rw [beq_eq_false_iff_ne]; omega) (by rw [beq_eq_false_iff_ne]; omega) (decide_eq_false (by omega)) (decide_eq_false (by omega)) (decide_eq_false (by omega)) (by rw [bne_eq_false_iff_eq]; omega) (by rw [bne_eq_false_iff_eq]; omega) (by rw [bne_iff_ne]; omega)
    by_cases p3 : imm = 0
    rotate_left
    · rw [show zeroB 8 ⟨op, form, frm, kind, rd, rs1, rs2, rs3, rm, imm, csr⟩ = false from by simp [zeroB, HAS]; omega]
      exact rmay_8_3 _ _ _ _ _ _ _ _ _ _ _ _ _ _ _ _ _ _ ho (decide_eq_false (by omega)) (decide_eq_false (by omega)) (decide_eq_false (by omega)) (decide_eq_false (by omega)) (decide_eq_false (by omega)) (by rw [beq_eq_false_iff_ne]; omega) (by rw [beq_eq_false_iff_ne]; omega) (decide_eq_false (by omega)) (decide_eq_false (by omega)) (decide_eq_false (by omega)) (by rw [bne_eq_false_iff_eq]; omega) (by rw [bne_eq_false_iff_eq]; omega) (by rw [bne_eq_false_iff_eq]; omega) (by rw [bne_iff_ne]; omega)
    have := rmay_8_ok W op form frm kind rd rs1 rs2 rs3 rm imm csr rop rform rfrm rkind rmask rmtch ho (decide_eq_false (by omega)) (decide_eq_false (by omega)) (decide_eq_false (by omega)) (decide_eq_false (by omega)) (decide_eq_false (by omega)) (by rw [beq_eq_false_iff_ne]; omega) (by rw [beq_eq_false_iff_ne]; omega) (decide_eq_false (by omega)) (decide_eq_false (by omega)) (decide_eq_false (by omega)) (by rw [bne_eq_false_iff_eq]; omega) (by rw [bne_eq_false_iff_eq]; omega) (by rw [bne_eq_false_iff_eq]; omega) (by rw [bne_eq_false_iff_eq]; omega) _ rfl
    rw [show zeroB 8 ⟨op, form, frm, kind, rd, rs1, rs2, rs3, rm, imm, csr⟩ = (true == ((csr : Int) != 0)) from by rw [Bool.eq_iff_iff]; simp [zeroB, HAS]; omega]
    exact this
  · skip
    by_cases p0 : rs2 = 0
    rotate_left
    · rw [show zeroB 9 ⟨op, form, frm, kind, rd, rs1, rs2, rs3, rm, imm, csr⟩ = false from by simp [zeroB, HAS]; omega]
      exact rmay_9_0 _ _ _ _ _ _ _ _ _ _ _ _ _ _ _ _ _ _ ho (decide_eq_false (by omega)) (decide_eq_false (by omega)) (decide_eq_false (by omega)) (decide_eq_false (by omega)) (decide_eq_false (by omega)) (by rw [beq_eq_false_iff_ne]; omega) (by rw [beq_eq_false_iff_ne]; omega) (decide_eq_false (by omega)) (decide_eq_false (by omega)) (decide_eq_false (by omega)) (by rw [bne_iff_ne]; omega)
    by_cases p1 : rs3 = 0
    rotate_left
    · rw [show zeroB 9 ⟨op, form, frm, kind, rd, rs1, rs2, rs3, rm, imm, csr⟩ = false from by simp [zeroB, HAS]; omega]
      exact rmay_9_1 _ _ _ _ _ _ _ _ _ _ _ _ _ _ _ _ _ _ ho (decide_eq_false (by omega)) (decide_eq_false (by omega)) (decide_eq_false (by omega)) (decide_eq_false (by omega)) (decide_eq_false (by omega)) (by rw [beq_eq_false_iff_ne]; omega) (by rw [beq_eq_false_iff_ne]; omega) (decide_eq_false (by omega)) (decide_eq_false (by omega)) (decide_eq_false (by omega)) (by rw [bne_eq_false_iff_eq]; omega) (by rw [bne_iff_ne]; omega)
    by_cases p2 : rm = 0
    rotate_left
    · rw [show zeroB 9 ⟨op, form, frm, kind, rd, rs1, rs2, rs3, rm, imm, csr⟩ = false from by simp [zeroB, HAS]; omega]
      exact rmay_9_2 _ _ _ _ _ _ _ _ _ _ _ _ _ _ _ _ _ _ ho (decide_eq_false (by omega)) (decide_eq_false (by omega)) (decide_eq_false (by omega)) (decide_eq_false (by omega)) (decide_eq_false (by omega)) (by rw [beq_eq_false_iff_ne]; omega) (by rw [beq_eq_false_iff_ne]; omega) (decide_eq_false (by omega)) (decide_eq_false (by omega)) (decide_eq_false (by omega)) (by rw [bne_eq_false_iff_eq]; omega) (by rw [bne_eq_false_iff_eq]; omega) (by rw [bne_iff_ne]; omega)
    by_cases p3 : imm = 0
    rotate_left
    · rw [show zeroB 9 ⟨op, form, frm, kind, rd, rs1, rs2, rs3, rm, imm, csr⟩ = false from by simp [zeroB, HAS]; omega]
      exact rmay_9_3 _ _ _ _ _ _ _ _ _ _ _ _ _ _ _ _ _ _ ho (decide_eq_false (by omega)) (decide_eq_false (by omega)) (decide_eq_false (by omega)) (decide_eq_false (by omega)) (decide_eq_false (by omega)) (by rw [beq_eq_false_iff_ne]; omega) (by rw [beq_eq_false_iff_ne]; omega) (decide_eq_false (by omega)) (decide_eq_false (by omega)) (decide_eq_false (by omega)) (by rw [bne_eq_false_iff_eq]; omega) (by rw [bne_eq_false_iff_eq]; omega) (by rw [bne_eq_false_iff_eq]; omega) (by rw [bne_iff_ne]; omega)
    have := rmay_9_ok W op form frm kind rd rs1 rs2 rs3 rm imm csr rop rform rfrm rkind rmask rmtch ho (decide_eq_false (by omega)) (decide_eq_false (by omega)) (decide_eq_false (by omega)) (decide_eq_false (by omega)) (decide_eq_false (by omega)) (by rw [beq_eq_false_iff_ne]; omega) (by rw [beq_eq_false_iff_ne]; omega) (decide_eq_false (by omega)) (decide_eq_false (by omega)) (decide_eq_false (by omega)) (by rw [bne_eq_false_iff_eq]; omega) (by rw [bne_eq_false_iff_eq]; omega) (by rw [bne_eq_false_iff_eq]; omega) (by rw [bne_eq_false_iff_eq]; omega) _ rfl
    rw [show zeroB 9 ⟨op, form, frm, kind, rd, rs1, rs2, rs3, rm, imm, csr⟩ = (true == ((csr : Int) != 0)) from by rw [Bool.eq_iff_iff]; simp [zeroB, HAS]; omega]
    exact this
theorem rmay_c (W : World) (x : I11) : Calls Try.prog 27 #[.agg (instV x)] W fun e w' => e = .returned (.bool (MAY x)) ∧ Below W.heap.size W w' := by
  cases ho : OFS x.op x.form x.frm x.kind with
  | none =>
    have : MAY x = false := by unfold MAY; rw [ho]; rfl
    rw [this]
    exact rmay_none W x ho
  | some r =>
    rw [may_eq ho]
    exact rmay_some W x r ho (lay_rows r (of_ops ho).1)
end Go.Proofs.Yteelconabmfnkaa
