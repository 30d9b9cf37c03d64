/- Plain: what may be encoded. -/
import Derived.Test.YtaddmgclnbkdgaaPh
namespace Go.Proofs.Ytaddmgclnbkdgaa
open Go Go.RowKit
set_option maxRecDepth 100000
set_option maxHeartbeats 1000000
set_option linter.unusedVariables false
theorem modeB_is {m : Nat} : modeB m = true ↔ m < 8 ∧ m ≠ 5 ∧ m ≠ 6 := by
  unfold modeB
  simp
  omega
theorem immB_is {x : I11} : immB x = true ↔ -2048 ≤ x.imm ∧ x.imm < 2048 := by
  unfold immB
  simp
theorem of_ops {op f g k : Nat} {r : R7} (h : OFS op f g k = some r) : r ∈ ROWS ∧ op = r.op ∧ f = r.form ∧ g = r.frm ∧ k = r.kind := by
  unfold OFS at h
  split at h
  · cases h
  · have hm := List.mem_of_find?_eq_some h
    have hp := List.find?_some h
    simp only [Bool.and_eq_true, beq_iff_eq] at hp
    exact ⟨hm, hp.1.symm, hp.2.1.symm, hp.2.2.1.symm, hp.2.2.2.symm⟩
theorem ofs_of {x : I11} {r : R7} (hr : r ∈ ROWS) (o1 : x.op = r.op) (o2 : x.form = r.form) (o3 : x.frm = r.frm) (o4 : x.kind = r.kind) : OFS x.op x.form x.frm x.kind = some r := by
  have F := row_fine r hr
  unfold OFS
  rw [if_neg (by rw [o1]; have := F.op1; have := F.op2; omega), o1, o2, o3, o4]
  unfold OF
  cases hf : ROWS.find? fun q => q.op == r.op && (q.form == r.form && (q.frm == r.frm && q.kind == r.kind)) with
  | none =>
    have := List.find?_eq_none.1 hf r hr
    simp at this
  | some q =>
    have hp := List.find?_some hf
    simp only [Bool.and_eq_true, beq_iff_eq] at hp
    rw [row_asked q (List.mem_of_find?_eq_some hf) r hr hp.1 hp.2.1 hp.2.2.1 hp.2.2.2]
theorem mays_of {l : Nat} {x : I11} (hl : 1 ≤ l ∧ l ≤ 9) (h : mayL l x = true) (he : withOp x (ownL l x) = x) : Mays l x := by
  obtain ⟨op, form, frm, kind, rd, rs1, rs2, rs3, rm, imm, csr⟩ := x
  rcases (by omega : l = 1 ∨ l = 2 ∨ l = 3 ∨ l = 4 ∨ l = 5 ∨ l = 6 ∨ l = 7 ∨ l = 8 ∨ l = 9) with rfl | rfl | rfl | rfl | rfl | rfl | rfl | rfl | rfl
  all_goals
    simp only [mayL, may1, may2, may3, may4, may6, may7, may8, may9, Bool.and_eq_true, decide_eq_true_eq, modeB_is, immB_is] at h
    simp only [withOp, ownL, ownRd, own2, own3, own4, own6, own7, own8, own9, I11.mk.injEq, true_and, and_true] at he
    constructor <;> simp only [] <;> omega
theorem of_mays {l : Nat} {x : I11} (hl : 1 ≤ l ∧ l ≤ 9) (M : Mays l x) : mayL l x = true ∧ withOp x (ownL l x) = x := by
  obtain ⟨h1, h2, h3, h4, h5, h6, h7, h8, h9, h10, z1, z2, z3, z4, z5, z6, z7⟩ := M
  obtain ⟨op, form, frm, kind, rd, rs1, rs2, rs3, rm, imm, csr⟩ := x
  simp only [] at *
  rcases (by omega : l = 1 ∨ l = 2 ∨ l = 3 ∨ l = 4 ∨ l = 5 ∨ l = 6 ∨ l = 7 ∨ l = 8 ∨ l = 9) with rfl | rfl | rfl | rfl | rfl | rfl | rfl | rfl | rfl
  all_goals
    simp only [mayL, may1, may2, may3, may4, may6, may7, may8, may9, Bool.and_eq_true, decide_eq_true_eq, modeB_is, immB_is]
    simp only [withOp, ownL, ownRd, own2, own3, own4, own6, own7, own8, own9, I11.mk.injEq, true_and, and_true]
    omega
theorem vl_fw (l : Nat) (hl : 1 ≤ l ∧ l ≤ 9) (x : I11) : VL l x = FW l x := by
  rcases (by omega : l = 1 ∨ l = 2 ∨ l = 3 ∨ l = 4 ∨ l = 5 ∨ l = 6 ∨ l = 7 ∨ l = 8 ∨ l = 9) with rfl | rfl | rfl | rfl | rfl | rfl | rfl | rfl | rfl
  all_goals
    simp only [VL, FW, V1, V2, V3, V4, V6, V7, V8, V9]
  all_goals omega
/-- what may be: its row, its word -/
theorem may_row {x : I11} (h : MAY x = true) : ∃ r ∈ ROWS, OFS x.op x.form x.frm x.kind = some r ∧ x.op = r.op ∧ x.form = r.form ∧ x.frm = r.frm ∧ x.kind = r.kind ∧ Mays r.lay x ∧ WORD x = r.mtch + FW r.lay x := by
  unfold MAY at h
  cases ho : OFS x.op x.form x.frm x.kind with
  | none => rw [ho] at h; cases h
  | some r =>
    rw [ho] at h
    simp only [mayE, Bool.and_eq_true, decide_eq_true_eq] at h
    obtain ⟨hr, o1, o2, o3, o4⟩ := of_ops ho
    have F := row_fine r hr
    have M := mays_of ⟨F.lay1, F.lay2⟩ h.1 h.2
    refine ⟨r, hr, rfl, o1, o2, o3, o4, M, ?_⟩
    unfold WORD
    rw [ho]
    show r.mtch ^^^ VL r.lay x = _
    rw [vl_fw _ ⟨F.lay1, F.lay2⟩, word_sum hr M]
theorem word_of {x : I11} {r : R7} (hr : r ∈ ROWS) (o1 : x.op = r.op) (o2 : x.form = r.form) (o3 : x.frm = r.frm) (o4 : x.kind = r.kind) (M : Mays r.lay x) : MAY x = true ∧ WORD x = r.mtch + FW r.lay x := by
  have ho := ofs_of hr o1 o2 o3 o4
  have F := row_fine r hr
  have hm := of_mays ⟨F.lay1, F.lay2⟩ M
  unfold MAY WORD
  rw [ho]
  refine ⟨?_, ?_⟩
  · show (mayL r.lay x && decide (withOp x (ownL r.lay x) = x)) = true
    rw [hm.1, hm.2]; simp
  · show r.mtch ^^^ VL r.lay x = _
    rw [vl_fw _ ⟨F.lay1, F.lay2⟩, word_sum hr M]
/-- P26.4, plain: both ways -/
theorem dec_word {x : I11} (h : MAY x = true) : WORD x < 4294967296 ∧ DEC (WORD x) = some x := by
  obtain ⟨r, hr, ho, o1, o2, o3, o4, M, hw⟩ := may_row h
  obtain ⟨h1, h2, h3⟩ := word_dec hr M o1 o2 o3 o4
  rw [hw]
  refine ⟨h1, ?_⟩
  unfold DEC
  rw [find_of hr h2, Option.map_some, h3]
theorem word_dec' {w : Nat} (hw : w < 4294967296) {x : I11} (h : DEC w = some x) : MAY x = true ∧ WORD x = w := by
  obtain ⟨r, hr, _, _, M, o1, o2, o3, o4, e⟩ := dec_fine hw h
  obtain ⟨h1, h2⟩ := word_of hr o1 o2 o3 o4 M
  exact ⟨h1, h2.trans e⟩
theorem word_inj {x y : I11} (h : MAY x = true) (k : MAY y = true) (e : WORD x = WORD y) : x = y := by
  have a := (dec_word h).2
  have b := (dec_word k).2
  rw [e, b] at a
  exact (Option.some.inj a).symm
end Go.Proofs.Ytaddmgclnbkdgaa
