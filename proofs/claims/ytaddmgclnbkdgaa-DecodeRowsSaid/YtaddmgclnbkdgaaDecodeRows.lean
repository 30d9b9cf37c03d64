/- The law DecodeRows: its walk. -/
import Derived.Test.YtaddmgclnbkdgaaEc
import Derived.Test.YtaddmgclnbkdgaaVj
import Derived.Test.YtaddmgclnbkdgaaVn
namespace Go.Proofs.Ytaddmgclnbkdgaa
open Go Go.RowKit
set_option maxHeartbeats 4000000
set_option maxRecDepth 100000
set_option linter.unusedVariables false
set_option linter.unusedSimpArgs false
theorem row_fmask : ∀ r ∈ ROWS, (samO (some r) (some r)) = (FMASK r.lay, 0) ∧ 4294967295 - FMASK r.lay = r.mask ∧ FMASK r.lay < 4294967296 := by
  have h : (ROWS.all fun r => decide (samO (some r) (some r) = (FMASK r.lay, 0)) && decide (4294967295 - FMASK r.lay = r.mask) && decide (FMASK r.lay < 4294967296)) = true := by decide +kernel
  intro r hr
  have := List.all_eq_true.1 h r hr
  simp only [Bool.and_eq_true, decide_eq_true_eq] at this
  exact ⟨this.1.1, this.1.2, this.2⟩
theorem apart_no {v w m k : Nat} (h1 : (v ^^^ m) &&& k = 0) (h2 : (w ^^^ m) &&& k = 0) : (v ^^^ w) &&& k = 0 := by
  apply Nat.eq_of_testBit_eq
  intro i
  have a := congrArg (·.testBit i) h1
  have b := congrArg (·.testBit i) h2
  simp only [Nat.testBit_and, Nat.testBit_xor, Nat.zero_testBit] at a b ⊢
  revert a b
  generalize k.testBit i = kb
  generalize v.testBit i = vb
  generalize w.testBit i = wb
  generalize m.testBit i = mb
  cases kb <;> cases vb <;> cases wb <;> cases mb <;> simp
theorem ofn_of (op f g k : Nat) : (OFN op f g k).map (·.1) = OF op f g k := by
  unfold OFN OF
  rw [← alln_rows]
  exact find_map (fun p : R7 × ByteArray => p.1) (fun r => r.op == op && (r.form == f && (r.frm == g && r.kind == k))) ALLN
/-- how the two lookups stand to one another -/
theorem of_both (x : I11) : ∃ (la : Nat) (le : Int) (tr : R7) (tn : ByteArray) (tf : Int), (∀ X, Calls Try.prog 54 #[.agg (instV x)] X fun e w' => e = .returned (.tuple #[.int .u8 (la : Nat), .int .i64 le]) ∧ Below X.heap.size X w') ∧
    (∀ X, Calls Try.prog 47 #[.int .u8 (x.op : Nat), .int .u8 (x.form : Nat), .int .u8 (x.frm : Nat), .int .u8 (x.kind : Nat)] X fun e w' => e = .returned (.tuple #[.agg (entV tr tn), .int .i64 tf]) ∧ Below X.heap.size X w') ∧
    ((tf ≠ 0 ∧ la = 0 ∧ le = 2) ∨ (tf = 0 ∧ la = tr.lay ∧ le = 0)) := by
  have CL := fun X => layout_c X x
  have CR := fun X => rof_c X x.op x.form x.frm x.kind
  unfold ROfP at CR
  unfold OFS at CL
  by_cases h : x.op = 0 ∨ 31 < x.op
  · have h' : x.op < 1 ∨ 31 < x.op := by omega
    simp only [if_pos h] at CL
    simp only [if_pos h'] at CR
    exact ⟨0, 2, zeroR, emp, 2, CL, CR, .inl ⟨by decide, rfl, rfl⟩⟩
  · have h' : ¬ (x.op < 1 ∨ 31 < x.op) := by omega
    simp only [if_neg h] at CL
    simp only [if_neg h'] at CR
    have hm := ofn_of x.op x.form x.frm x.kind
    cases hO : OFN x.op x.form x.frm x.kind with
    | none =>
      rw [hO] at hm CR
      rw [← hm] at CL
      exact ⟨0, 2, zeroR, emp, 240, CL, CR, .inl ⟨by decide, rfl, rfl⟩⟩
    | some p =>
      rw [hO] at hm CR
      rw [← hm] at CL
      exact ⟨p.1.lay, 0, p.1, p.2, 0, CL, CR, .inr ⟨rfl, rfl, rfl⟩⟩
theorem drows (W : World) (x : I11) (v w : Nat) (hv : v < 4294967296) (hw : w < 4294967296) (r1 r2 : R7) (n1 n2 : ByteArray) (b1 b2 : Bool) (m : Nat) (g : Int)
    (CS : ∀ X, Calls Try.prog 53 #[.int .u32 v, .int .u32 w] X fun e w' => e = .returned (.tuple #[.int .u32 (m : Nat), .int .i64 g]) ∧ Below X.heap.size X w')
    (C1 : ∀ X, Calls Try.prog 25 #[.int .u32 v] X fun e w' => e = .returned (.tuple #[.agg (entV r1 n1), .bool b1]) ∧ Below X.heap.size X w')
    (C2 : ∀ X, Calls Try.prog 25 #[.int .u32 w] X fun e w' => e = .returned (.tuple #[.agg (entV r2 n2), .bool b2]) ∧ Below X.heap.size X w')
    (hc : (b1 = false ∧ m = 0 ∧ g = 250) ∨ (b1 = true ∧ b2 = false ∧ m = 0 ∧ g = 250) ∨ (b1 = true ∧ b2 = true ∧ r1 ≠ r2 ∧ m = 0 ∧ g = 2) ∨ (b1 = true ∧ b2 = true ∧ r1 = r2 ∧ r1 ∈ ROWS ∧ m = FMASK r1.lay ∧ g = 0 ∧ m < 4294967296 ∧ (v ^^^ w) &&& (4294967295 - m) = 0)) :
    Calls Try.prog 19 #[.agg (instV x), .int .u32 v, .int .u32 w] W fun e w' => e = .returned (.bool true) ∧ Below W.heap.size W w' := by
  obtain ⟨la, le, tr, tn, tf, CL, CR, hl⟩ := of_both x
  obtain ⟨op, form, frm, kind, rd, rs1, rs2, rs3, rm, imm, csr⟩ := x
  simp only [] at CL CR
  replace CL := Lib.hid CL
  replace CR := Lib.hid CR
  replace CS := Lib.hid CS
  replace C1 := Lib.hid C1
  replace C2 := Lib.hid C2
  have C3 := Lib.hid lives25
  have hx32 : v ^^^ w < 4294967296 := Nat.xor_lt_two_pow (n := 32) hv hw
  rcases hl with ⟨h1, rfl, rfl⟩ | ⟨rfl, rfl, rfl⟩
  · have zf : (tf != 0) = true := by rw [bne_iff_ne]; exact h1
    clear h1
    rcases hc with ⟨rfl, rfl, rfl⟩ | ⟨rfl, rfl, rfl, rfl⟩ | ⟨rfl, rfl, hne, rfl, rfl⟩ | ⟨rfl, rfl, rfl, hmem, hm, rfl, hm32, hx⟩
    · skip
      go_enter Try.func19, Try.ntmps19
      go_wp2_with (first
        | (go_at_call 54; (with_reducible refine (CL.out _).mono ?_); rintro e w1 ⟨rfl, j1⟩; clear CL; have q3 := Blk.nlater j1; have g0 := q3.cell 0; have g1 := q3.cell 1; have g2 := q3.cell 2; have g3 := q3.cell 3; simp only [List.getElem?_toArray, List.getElem?_cons_succ, List.getElem?_cons_zero] at g0 g1 g2 g3)
        | (go_at_call 47; (with_reducible refine (CR.out _).mono ?_); rintro e w2 ⟨rfl, j2⟩; clear CR)
        | (go_at_call 53; (with_reducible refine (CS.out _).mono ?_); rintro e w3 ⟨rfl, j3⟩; clear CS)
        | (go_at_call 25; (with_reducible refine (C1.out _).mono ?_); rintro e w4 ⟨rfl, j4⟩; clear C1)
        | (go_at_call 25; (with_reducible refine (C2.out _).mono ?_); rintro e w5 ⟨rfl, j5⟩; clear C2; have q13 := (Blk.nlater j5).alloc (.cells (entV r2 n2) 42); have q15 := Blk.new w5 (entV r2 n2) 42; have d0 := q13.cell 0; have e0 := q15.cell 0; have d1 := q13.cell 1; have e1 := q15.cell 1; have d2 := q13.cell 2; have e2 := q15.cell 2; have d3 := q13.cell 3; have e3 := q15.cell 3; have d4 := q13.cell 4; have e4 := q15.cell 4; have d5 := q13.cell 5; have e5 := q15.cell 5; have d6 := q13.cell 6; have e6 := q15.cell 6; simp only [List.getElem?_toArray, List.getElem?_cons_succ, List.getElem?_cons_zero] at d0 e0 d1 e1 d2 e2 d3 e3 d4 e4 d5 e5 d6 e6)
        | (go_at_call 40; (with_reducible refine (C3.out _).mono ?_); rintro e w7 ⟨rfl, j7⟩; clear C3))
      go_ret
      have k1 := below_acall (Below.refl W.heap.size W) (Nat.le_refl _) j1
      have k2 := k1.trans (j2.mono k1.size)
      have k3 := below_acall k2 k2.size j3
      have k4 := k3.trans (j4.mono k3.size)
      have k5 := below_acall k4 k4.size j5
      exact ⟨rfl, below_acall k5 k5.size j7⟩
    · skip
      go_enter Try.func19, Try.ntmps19
      go_wp2_with (first
        | (go_at_call 54; (with_reducible refine (CL.out _).mono ?_); rintro e w1 ⟨rfl, j1⟩; clear CL; have q3 := Blk.nlater j1; have g0 := q3.cell 0; have g1 := q3.cell 1; have g2 := q3.cell 2; have g3 := q3.cell 3; simp only [List.getElem?_toArray, List.getElem?_cons_succ, List.getElem?_cons_zero] at g0 g1 g2 g3)
        | (go_at_call 47; (with_reducible refine (CR.out _).mono ?_); rintro e w2 ⟨rfl, j2⟩; clear CR)
        | (go_at_call 53; (with_reducible refine (CS.out _).mono ?_); rintro e w3 ⟨rfl, j3⟩; clear CS)
        | (go_at_call 25; (with_reducible refine (C1.out _).mono ?_); rintro e w4 ⟨rfl, j4⟩; clear C1)
        | (go_at_call 25; (with_reducible refine (C2.out _).mono ?_); rintro e w5 ⟨rfl, j5⟩; clear C2; have q13 := (Blk.nlater j5).alloc (.cells (entV r2 n2) 42); have q15 := Blk.new w5 (entV r2 n2) 42; have d0 := q13.cell 0; have e0 := q15.cell 0; have d1 := q13.cell 1; have e1 := q15.cell 1; have d2 := q13.cell 2; have e2 := q15.cell 2; have d3 := q13.cell 3; have e3 := q15.cell 3; have d4 := q13.cell 4; have e4 := q15.cell 4; have d5 := q13.cell 5; have e5 := q15.cell 5; have d6 := q13.cell 6; have e6 := q15.cell 6; simp only [List.getElem?_toArray, List.getElem?_cons_succ, List.getElem?_cons_zero] at d0 e0 d1 e1 d2 e2 d3 e3 d4 e4 d5 e5 d6 e6)
        | (go_at_call 40; (with_reducible refine (C3.out _).mono ?_); rintro e w7 ⟨rfl, j7⟩; clear C3))
      go_ret
      have k1 := below_acall (Below.refl W.heap.size W) (Nat.le_refl _) j1
      have k2 := k1.trans (j2.mono k1.size)
      have k3 := below_acall k2 k2.size j3
      have k4 := k3.trans (j4.mono k3.size)
      have k5 := below_acall k4 k4.size j5
      exact ⟨rfl, below_acall k5 k5.size j7⟩
    · have hb : ∀ X, (binOp .neq 40 (.agg (rowV r1)) (.agg (rowV r2))).run Try.prog X = .ok (.bool true) X := fun X => by rw [neq_row, decide_eq_false hne]; rfl
      clear hne
      go_enter Try.func19, Try.ntmps19
      go_wp2_with (first
        | (go_at_call 54; (with_reducible refine (CL.out _).mono ?_); rintro e w1 ⟨rfl, j1⟩; clear CL; have q3 := Blk.nlater j1; have g0 := q3.cell 0; have g1 := q3.cell 1; have g2 := q3.cell 2; have g3 := q3.cell 3; simp only [List.getElem?_toArray, List.getElem?_cons_succ, List.getElem?_cons_zero] at g0 g1 g2 g3)
        | (go_at_call 47; (with_reducible refine (CR.out _).mono ?_); rintro e w2 ⟨rfl, j2⟩; clear CR)
        | (go_at_call 53; (with_reducible refine (CS.out _).mono ?_); rintro e w3 ⟨rfl, j3⟩; clear CS)
        | (go_at_call 25; (with_reducible refine (C1.out _).mono ?_); rintro e w4 ⟨rfl, j4⟩; clear C1)
        | (go_at_call 25; (with_reducible refine (C2.out _).mono ?_); rintro e w5 ⟨rfl, j5⟩; clear C2; have q13 := (Blk.nlater j5).alloc (.cells (entV r2 n2) 42); have q15 := Blk.new w5 (entV r2 n2) 42; have d0 := q13.cell 0; have e0 := q15.cell 0; have d1 := q13.cell 1; have e1 := q15.cell 1; have d2 := q13.cell 2; have e2 := q15.cell 2; have d3 := q13.cell 3; have e3 := q15.cell 3; have d4 := q13.cell 4; have e4 := q15.cell 4; have d5 := q13.cell 5; have e5 := q15.cell 5; have d6 := q13.cell 6; have e6 := q15.cell 6; simp only [List.getElem?_toArray, List.getElem?_cons_succ, List.getElem?_cons_zero] at d0 e0 d1 e1 d2 e2 d3 e3 d4 e4 d5 e5 d6 e6)
        | (go_at_call 40; (with_reducible refine (C3.out _).mono ?_); rintro e w7 ⟨rfl, j7⟩; clear C3))
      go_ret
      have k1 := below_acall (Below.refl W.heap.size W) (Nat.le_refl _) j1
      have k2 := k1.trans (j2.mono k1.size)
      have k3 := below_acall k2 k2.size j3
      have k4 := k3.trans (j4.mono k3.size)
      have k5 := below_acall k4 k4.size j5
      exact ⟨rfl, below_acall k5 k5.size j7⟩
    · have hb : ∀ X, (binOp .neq 40 (.agg (rowV r1)) (.agg (rowV r1))).run Try.prog X = .ok (.bool false) X := fun X => by rw [neq_row, decide_eq_true rfl]; rfl
      have CM := Lib.hid (fun X => mask_c X r1.lay (lay_rows r1 hmem))
      rw [← hm] at CM
      obtain ⟨y, hy⟩ : ∃ y, v ^^^ w = y := ⟨_, rfl⟩
      have e8 : bits .xor .u32 (v : Int) (w : Int) = ((y : Nat) : Int) := by rw [← hy]; exact xor32 v w hv hw
      rw [hy] at hx hx32
      have e9 : bits .andNot .u32 (y : Int) (m : Int) = 0 := by rw [u32_andNot_nat y m hx32 hm32, hx]; rfl
      clear hm hmem hx hy
      go_enter Try.func19, Try.ntmps19
      go_wp2_with (first
        | (go_at_call 54; (with_reducible refine (CL.out _).mono ?_); rintro e w1 ⟨rfl, j1⟩; clear CL; have q3 := Blk.nlater j1; have g0 := q3.cell 0; have g1 := q3.cell 1; have g2 := q3.cell 2; have g3 := q3.cell 3; simp only [List.getElem?_toArray, List.getElem?_cons_succ, List.getElem?_cons_zero] at g0 g1 g2 g3)
        | (go_at_call 47; (with_reducible refine (CR.out _).mono ?_); rintro e w2 ⟨rfl, j2⟩; clear CR)
        | (go_at_call 53; (with_reducible refine (CS.out _).mono ?_); rintro e w3 ⟨rfl, j3⟩; clear CS)
        | (go_at_call 25; (with_reducible refine (C1.out _).mono ?_); rintro e w4 ⟨rfl, j4⟩; clear C1)
        | (go_at_call 25; (with_reducible refine (C2.out _).mono ?_); rintro e w5 ⟨rfl, j5⟩; clear C2; have q13 := (Blk.nlater j5).alloc (.cells (entV r1 n2) 42); have q15 := Blk.new w5 (entV r1 n2) 42; have d0 := q13.cell 0; have e0 := q15.cell 0; have d1 := q13.cell 1; have e1 := q15.cell 1; have d2 := q13.cell 2; have e2 := q15.cell 2; have d3 := q13.cell 3; have e3 := q15.cell 3; have d4 := q13.cell 4; have e4 := q15.cell 4; have d5 := q13.cell 5; have e5 := q15.cell 5; have d6 := q13.cell 6; have e6 := q15.cell 6; simp only [List.getElem?_toArray, List.getElem?_cons_succ, List.getElem?_cons_zero] at d0 e0 d1 e1 d2 e2 d3 e3 d4 e4 d5 e5 d6 e6)
        | (go_at_call 55; (with_reducible refine (CM.out _).mono ?_); rintro e w6 ⟨rfl, j6⟩; clear CM)
        | (go_at_call 40; (with_reducible refine (C3.out _).mono ?_); rintro e w7 ⟨rfl, j7⟩; clear C3))
      go_ret
      have k1 := below_acall (Below.refl W.heap.size W) (Nat.le_refl _) j1
      have k2 := k1.trans (j2.mono k1.size)
      have k3 := below_acall k2 k2.size j3
      have k4 := k3.trans (j4.mono k3.size)
      have k5 := below_acall k4 k4.size j5
      have k6 := below_acall k5 k5.size j6
      exact ⟨rfl, k6.trans (j7.mono k6.size)⟩
  · skip
    rcases hc with ⟨rfl, rfl, rfl⟩ | ⟨rfl, rfl, rfl, rfl⟩ | ⟨rfl, rfl, hne, rfl, rfl⟩ | ⟨rfl, rfl, rfl, hmem, hm, rfl, hm32, hx⟩
    · skip
      go_enter Try.func19, Try.ntmps19
      go_wp2_with (first
        | (go_at_call 54; (with_reducible refine (CL.out _).mono ?_); rintro e w1 ⟨rfl, j1⟩; clear CL; have q3 := Blk.nlater j1; have g0 := q3.cell 0; have g1 := q3.cell 1; have g2 := q3.cell 2; have g3 := q3.cell 3; simp only [List.getElem?_toArray, List.getElem?_cons_succ, List.getElem?_cons_zero] at g0 g1 g2 g3)
        | (go_at_call 47; (with_reducible refine (CR.out _).mono ?_); rintro e w2 ⟨rfl, j2⟩; clear CR)
        | (go_at_call 53; (with_reducible refine (CS.out _).mono ?_); rintro e w3 ⟨rfl, j3⟩; clear CS)
        | (go_at_call 25; (with_reducible refine (C1.out _).mono ?_); rintro e w4 ⟨rfl, j4⟩; clear C1)
        | (go_at_call 25; (with_reducible refine (C2.out _).mono ?_); rintro e w5 ⟨rfl, j5⟩; clear C2; have q13 := (Blk.nlater j5).alloc (.cells (entV r2 n2) 42); have q15 := Blk.new w5 (entV r2 n2) 42; have d0 := q13.cell 0; have e0 := q15.cell 0; have d1 := q13.cell 1; have e1 := q15.cell 1; have d2 := q13.cell 2; have e2 := q15.cell 2; have d3 := q13.cell 3; have e3 := q15.cell 3; have d4 := q13.cell 4; have e4 := q15.cell 4; have d5 := q13.cell 5; have e5 := q15.cell 5; have d6 := q13.cell 6; have e6 := q15.cell 6; simp only [List.getElem?_toArray, List.getElem?_cons_succ, List.getElem?_cons_zero] at d0 e0 d1 e1 d2 e2 d3 e3 d4 e4 d5 e5 d6 e6)
        | (go_at_call 40; (with_reducible refine (C3.out _).mono ?_); rintro e w7 ⟨rfl, j7⟩; clear C3))
      go_ret
      have k1 := below_acall (Below.refl W.heap.size W) (Nat.le_refl _) j1
      have k2 := k1.trans (j2.mono k1.size)
      have k3 := below_acall k2 k2.size j3
      have k4 := k3.trans (j4.mono k3.size)
      have k5 := below_acall k4 k4.size j5
      exact ⟨rfl, below_acall k5 k5.size j7⟩
    · skip
      go_enter Try.func19, Try.ntmps19
      go_wp2_with (first
        | (go_at_call 54; (with_reducible refine (CL.out _).mono ?_); rintro e w1 ⟨rfl, j1⟩; clear CL; have q3 := Blk.nlater j1; have g0 := q3.cell 0; have g1 := q3.cell 1; have g2 := q3.cell 2; have g3 := q3.cell 3; simp only [List.getElem?_toArray, List.getElem?_cons_succ, List.getElem?_cons_zero] at g0 g1 g2 g3)
        | (go_at_call 47; (with_reducible refine (CR.out _).mono ?_); rintro e w2 ⟨rfl, j2⟩; clear CR)
        | (go_at_call 53; (with_reducible refine (CS.out _).mono ?_); rintro e w3 ⟨rfl, j3⟩; clear CS)
        | (go_at_call 25; (with_reducible refine (C1.out _).mono ?_); rintro e w4 ⟨rfl, j4⟩; clear C1)
        | (go_at_call 25; (with_reducible refine (C2.out _).mono ?_); rintro e w5 ⟨rfl, j5⟩; clear C2; have q13 := (Blk.nlater j5).alloc (.cells (entV r2 n2) 42); have q15 := Blk.new w5 (entV r2 n2) 42; have d0 := q13.cell 0; have e0 := q15.cell 0; have d1 := q13.cell 1; have e1 := q15.cell 1; have d2 := q13.cell 2; have e2 := q15.cell 2; have d3 := q13.cell 3; have e3 := q15.cell 3; have d4 := q13.cell 4; have e4 := q15.cell 4; have d5 := q13.cell 5; have e5 := q15.cell 5; have d6 := q13.cell 6; have e6 := q15.cell 6; simp only [List.getElem?_toArray, List.getElem?_cons_succ, List.getElem?_cons_zero] at d0 e0 d1 e1 d2 e2 d3 e3 d4 e4 d5 e5 d6 e6)
        | (go_at_call 40; (with_reducible refine (C3.out _).mono ?_); rintro e w7 ⟨rfl, j7⟩; clear C3))
      go_ret
      have k1 := below_acall (Below.refl W.heap.size W) (Nat.le_refl _) j1
      have k2 := k1.trans (j2.mono k1.size)
      have k3 := below_acall k2 k2.size j3
      have k4 := k3.trans (j4.mono k3.size)
      have k5 := below_acall k4 k4.size j5
      exact ⟨rfl, below_acall k5 k5.size j7⟩
    · have hb : ∀ X, (binOp .neq 40 (.agg (rowV r1)) (.agg (rowV r2))).run Try.prog X = .ok (.bool true) X := fun X => by rw [neq_row, decide_eq_false hne]; rfl
      clear hne
      go_enter Try.func19, Try.ntmps19
      go_wp2_with (first
        | (go_at_call 54; (with_reducible refine (CL.out _).mono ?_); rintro e w1 ⟨rfl, j1⟩; clear CL; have q3 := Blk.nlater j1; have g0 := q3.cell 0; have g1 := q3.cell 1; have g2 := q3.cell 2; have g3 := q3.cell 3; simp only [List.getElem?_toArray, List.getElem?_cons_succ, List.getElem?_cons_zero] at g0 g1 g2 g3)
        | (go_at_call 47; (with_reducible refine (CR.out _).mono ?_); rintro e w2 ⟨rfl, j2⟩; clear CR)
        | (go_at_call 53; (with_reducible refine (CS.out _).mono ?_); rintro e w3 ⟨rfl, j3⟩; clear CS)
        | (go_at_call 25; (with_reducible refine (C1.out _).mono ?_); rintro e w4 ⟨rfl, j4⟩; clear C1)
        | (go_at_call 25; (with_reducible refine (C2.out _).mono ?_); rintro e w5 ⟨rfl, j5⟩; clear C2; have q13 := (Blk.nlater j5).alloc (.cells (entV r2 n2) 42); have q15 := Blk.new w5 (entV r2 n2) 42; have d0 := q13.cell 0; have e0 := q15.cell 0; have d1 := q13.cell 1; have e1 := q15.cell 1; have d2 := q13.cell 2; have e2 := q15.cell 2; have d3 := q13.cell 3; have e3 := q15.cell 3; have d4 := q13.cell 4; have e4 := q15.cell 4; have d5 := q13.cell 5; have e5 := q15.cell 5; have d6 := q13.cell 6; have e6 := q15.cell 6; simp only [List.getElem?_toArray, List.getElem?_cons_succ, List.getElem?_cons_zero] at d0 e0 d1 e1 d2 e2 d3 e3 d4 e4 d5 e5 d6 e6)
        | (go_at_call 40; (with_reducible refine (C3.out _).mono ?_); rintro e w7 ⟨rfl, j7⟩; clear C3))
      go_ret
      have k1 := below_acall (Below.refl W.heap.size W) (Nat.le_refl _) j1
      have k2 := k1.trans (j2.mono k1.size)
      have k3 := below_acall k2 k2.size j3
      have k4 := k3.trans (j4.mono k3.size)
      have k5 := below_acall k4 k4.size j5
      exact ⟨rfl, below_acall k5 k5.size j7⟩
    · have hb : ∀ X, (binOp .neq 40 (.agg (rowV r1)) (.agg (rowV r1))).run Try.prog X = .ok (.bool false) X := fun X => by rw [neq_row, decide_eq_true rfl]; rfl
      have CM := Lib.hid (fun X => mask_c X r1.lay (lay_rows r1 hmem))
      rw [← hm] at CM
      obtain ⟨y, hy⟩ : ∃ y, v ^^^ w = y := ⟨_, rfl⟩
      have e8 : bits .xor .u32 (v : Int) (w : Int) = ((y : Nat) : Int) := by rw [← hy]; exact xor32 v w hv hw
      rw [hy] at hx hx32
      have e9 : bits .andNot .u32 (y : Int) (m : Int) = 0 := by rw [u32_andNot_nat y m hx32 hm32, hx]; rfl
      clear hm hmem hx hy
      go_enter Try.func19, Try.ntmps19
      go_wp2_with (first
        | (go_at_call 54; (with_reducible refine (CL.out _).mono ?_); rintro e w1 ⟨rfl, j1⟩; clear CL; have q3 := Blk.nlater j1; have g0 := q3.cell 0; have g1 := q3.cell 1; have g2 := q3.cell 2; have g3 := q3.cell 3; simp only [List.getElem?_toArray, List.getElem?_cons_succ, List.getElem?_cons_zero] at g0 g1 g2 g3)
        | (go_at_call 47; (with_reducible refine (CR.out _).mono ?_); rintro e w2 ⟨rfl, j2⟩; clear CR)
        | (go_at_call 53; (with_reducible refine (CS.out _).mono ?_); rintro e w3 ⟨rfl, j3⟩; clear CS)
        | (go_at_call 25; (with_reducible refine (C1.out _).mono ?_); rintro e w4 ⟨rfl, j4⟩; clear C1)
        | (go_at_call 25; (with_reducible refine (C2.out _).mono ?_); rintro e w5 ⟨rfl, j5⟩; clear C2; have q13 := (Blk.nlater j5).alloc (.cells (entV r1 n2) 42); have q15 := Blk.new w5 (entV r1 n2) 42; have d0 := q13.cell 0; have e0 := q15.cell 0; have d1 := q13.cell 1; have e1 := q15.cell 1; have d2 := q13.cell 2; have e2 := q15.cell 2; have d3 := q13.cell 3; have e3 := q15.cell 3; have d4 := q13.cell 4; have e4 := q15.cell 4; have d5 := q13.cell 5; have e5 := q15.cell 5; have d6 := q13.cell 6; have e6 := q15.cell 6; simp only [List.getElem?_toArray, List.getElem?_cons_succ, List.getElem?_cons_zero] at d0 e0 d1 e1 d2 e2 d3 e3 d4 e4 d5 e5 d6 e6)
        | (go_at_call 55; (with_reducible refine (CM.out _).mono ?_); rintro e w6 ⟨rfl, j6⟩; clear CM)
        | (go_at_call 40; (with_reducible refine (C3.out _).mono ?_); rintro e w7 ⟨rfl, j7⟩; clear C3))
      go_ret
      have k1 := below_acall (Below.refl W.heap.size W) (Nat.le_refl _) j1
      have k2 := k1.trans (j2.mono k1.size)
      have k3 := below_acall k2 k2.size j3
      have k4 := k3.trans (j4.mono k3.size)
      have k5 := below_acall k4 k4.size j5
      have k6 := below_acall k5 k5.size j6
      exact ⟨rfl, k6.trans (j7.mono k6.size)⟩
theorem walk_DecodeRows (x : I11) (v w : Nat) (W : World) (_ : x.op < 256 ∧ x.form < 256 ∧ x.frm < 256 ∧ x.kind < 256 ∧ x.rd < 256 ∧ x.rs1 < 256 ∧ x.rs2 < 256 ∧ x.rs3 < 256 ∧ x.rm < 256 ∧ (-32768 ≤ x.imm ∧ x.imm ≤ 32767) ∧ x.csr < 256) (hv : v < 4294967296) (hw : w < 4294967296) : Calls Try.prog 19 #[.agg (instV x), .int .u32 v, .int .u32 w] W fun e w' => e = .returned (.bool true) ∧ Below W.heap.size W w' := by
  have CS := fun X => same_c X v w hv hw
  have C1 := fun X => rfind_c X v hv
  have C2 := fun X => rfind_c X w hw
  unfold RFindP at C1 C2
  unfold samV at CS
  rw [← findn_map v, ← findn_map w] at CS
  cases h1 : FINDN v with
  | none => rw [h1] at C1 CS; exact drows W x v w hv hw _ _ _ _ _ _ _ _ CS C1 C2 (.inl ⟨rfl, rfl, rfl⟩)
  | some p =>
    rw [h1] at C1 CS
    cases h2 : FINDN w with
    | none => rw [h2] at C2 CS; exact drows W x v w hv hw _ _ _ _ _ _ _ _ CS C1 C2 (.inr (.inl ⟨rfl, rfl, rfl, rfl⟩))
    | some q =>
      rw [h2] at C2 CS
      simp only [Option.map_some, Option.getD_some, Option.isSome_some] at C1 C2 CS
      by_cases hpq : p.1 = q.1
      · have hm : p.1 ∈ ROWS := alln_mem (List.mem_of_find?_eq_some h1)
        obtain ⟨f1, f2, f3⟩ := row_fmask p.1 hm
        rw [← hpq, f1] at CS
        have a := fits_and (by simpa using List.find?_some h1 : fitsB p.1 v = true)
        have b := fits_and (by simpa using List.find?_some h2 : fitsB q.1 w = true)
        rw [← hpq] at b
        exact drows W x v w hv hw _ _ _ _ _ _ _ _ CS C1 C2 (.inr (.inr (.inr ⟨rfl, rfl, hpq, hm, rfl, rfl, f3, by rw [f2]; exact apart_no a b⟩)))
      · rw [samO_other _ _ hpq] at CS
        exact drows W x v w hv hw _ _ _ _ _ _ _ _ CS C1 C2 (.inr (.inr (.inl ⟨rfl, rfl, hpq, rfl, rfl⟩)))
end Go.Proofs.Ytaddmgclnbkdgaa
