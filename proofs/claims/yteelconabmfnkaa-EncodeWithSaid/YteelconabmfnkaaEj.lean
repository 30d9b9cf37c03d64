/- encode.With. -/
import Derived.Test.YteelconabmfnkaaLd
import Derived.Test.YteelconabmfnkaaPf
namespace Go.Proofs.Yteelconabmfnkaa
open Go Go.RowKit
set_option maxHeartbeats 4000000
set_option maxRecDepth 100000
set_option linter.unusedVariables false
set_option linter.unusedSimpArgs false
/-- the word's instruction is of the same row as x -/
def asksI (y x : I11) : Bool := y.op == x.op && (y.form == x.form && (y.frm == x.frm && y.kind == x.kind))
def withV (w : Nat) (x : I11) : Nat × Int := match DEC w with
  | none => (0, 250)
  | some y => if asksI y x then (encV x, encE x) else (0, 260)
theorem bne_cast (a b : Nat) : ((a : Int) != (b : Int)) = (a != b) := by unfold bne; rw [beq_cast]
theorem with_none (W : World) (x : I11) (w : Nat) (hw : w < 4294967296) (h : DEC w = none) : Calls Try.prog 24 #[.int .u32 (w : Nat), .agg (instV x)] W fun e w' => e = .returned (.tuple #[.int .u32 0, .int .i64 250]) ∧ Below W.heap.size W w' := by
  have CD := Lib.hid (dec_not w hw h)
  clear h
  obtain ⟨op, form, frm, kind, rd, rs1, rs2, rs3, rm, imm, csr⟩ := x
  have B0 := Lib.hid ((Below.refl W.heap.size W).alloc (Nat.le_refl _) (.cells (instV ⟨op, form, frm, kind, rd, rs1, rs2, rs3, rm, imm, csr⟩) 27))
  go_enter Try.func24, Try.ntmps24
  go_wp2_with (first
    | (go_at_call 22; (with_reducible refine (CD.out _).mono ?_); rintro e w1 ⟨rfl, b1⟩; clear CD))
  go_ret2
  exact ⟨rfl, (below_call B0.out b1).alloc (below_call B0.out b1).size _⟩
theorem with_0 (W : World) (x y : I11) (w : Nat) (hw : w < 4294967296) (h : DEC w = some y)  (n0 : y.op ≠ x.op) : Calls Try.prog 24 #[.int .u32 (w : Nat), .agg (instV x)] W fun e w' => e = .returned (.tuple #[.int .u32 0, .int .i64 260]) ∧ Below W.heap.size W w' := by
  have CD := Lib.hid (dec_is w hw y h)
  have f0 : ((y.op : Int) != (x.op : Int)) = true := by rw [bne_cast, bne_iff_ne]; exact n0
  clear h n0
  obtain ⟨op, form, frm, kind, rd, rs1, rs2, rs3, rm, imm, csr⟩ := x
  obtain ⟨yop, yform, yfrm, ykind, yrd, yrs1, yrs2, yrs3, yrm, yimm, ycsr⟩ := y
  simp only [] at f0
  have K0 := Lib.hid (Blk.new W (instV ⟨op, form, frm, kind, rd, rs1, rs2, rs3, rm, imm, csr⟩) 27)
  have B0 := Lib.hid ((Below.refl W.heap.size W).alloc (Nat.le_refl _) (.cells (instV ⟨op, form, frm, kind, rd, rs1, rs2, rs3, rm, imm, csr⟩) 27))
  go_enter Try.func24, Try.ntmps24
  go_wp2_with (first
    | (go_at_call 22; (with_reducible refine (CD.out _).mono ?_); rintro e w1 ⟨rfl, b1⟩; clear CD; have k1 := (K0.out.call b1).alloc (.cells (instV ⟨yop, yform, yfrm, ykind, yrd, yrs1, yrs2, yrs3, yrm, yimm, ycsr⟩) 27); have y1 := Blk.new w1 (instV ⟨yop, yform, yfrm, ykind, yrd, yrs1, yrs2, yrs3, yrm, yimm, ycsr⟩) 27; have c0 := k1.cell 0; have d0 := y1.cell 0; simp only [List.getElem?_toArray, List.getElem?_cons_succ, List.getElem?_cons_zero] at c0 d0))
  go_ret2
  exact ⟨rfl, (below_call B0.out b1).alloc (below_call B0.out b1).size _⟩
theorem with_1 (W : World) (x y : I11) (w : Nat) (hw : w < 4294967296) (h : DEC w = some y) (n0 : y.op = x.op) (n1 : y.form ≠ x.form) : Calls Try.prog 24 #[.int .u32 (w : Nat), .agg (instV x)] W fun e w' => e = .returned (.tuple #[.int .u32 0, .int .i64 260]) ∧ Below W.heap.size W w' := by
  have CD := Lib.hid (dec_is w hw y h)
  have f0 : ((y.op : Int) != (x.op : Int)) = false := by rw [n0]; simp
  have f1 : ((y.form : Int) != (x.form : Int)) = true := by rw [bne_cast, bne_iff_ne]; exact n1
  clear h n0 n1
  obtain ⟨op, form, frm, kind, rd, rs1, rs2, rs3, rm, imm, csr⟩ := x
  obtain ⟨yop, yform, yfrm, ykind, yrd, yrs1, yrs2, yrs3, yrm, yimm, ycsr⟩ := y
  simp only [] at f0 f1
  have K0 := Lib.hid (Blk.new W (instV ⟨op, form, frm, kind, rd, rs1, rs2, rs3, rm, imm, csr⟩) 27)
  have B0 := Lib.hid ((Below.refl W.heap.size W).alloc (Nat.le_refl _) (.cells (instV ⟨op, form, frm, kind, rd, rs1, rs2, rs3, rm, imm, csr⟩) 27))
  go_enter Try.func24, Try.ntmps24
  go_wp2_with (first
    | (go_at_call 22; (with_reducible refine (CD.out _).mono ?_); rintro e w1 ⟨rfl, b1⟩; clear CD; have k1 := (K0.out.call b1).alloc (.cells (instV ⟨yop, yform, yfrm, ykind, yrd, yrs1, yrs2, yrs3, yrm, yimm, ycsr⟩) 27); have y1 := Blk.new w1 (instV ⟨yop, yform, yfrm, ykind, yrd, yrs1, yrs2, yrs3, yrm, yimm, ycsr⟩) 27; have c0 := k1.cell 0; have d0 := y1.cell 0; have c1 := k1.cell 1; have d1 := y1.cell 1; simp only [List.getElem?_toArray, List.getElem?_cons_succ, List.getElem?_cons_zero] at c0 d0 c1 d1))
  go_ret2
  exact ⟨rfl, (below_call B0.out b1).alloc (below_call B0.out b1).size _⟩
theorem with_2 (W : World) (x y : I11) (w : Nat) (hw : w < 4294967296) (h : DEC w = some y) (n0 : y.op = x.op) (n1 : y.form = x.form) (n2 : y.frm ≠ x.frm) : Calls Try.prog 24 #[.int .u32 (w : Nat), .agg (instV x)] W fun e w' => e = .returned (.tuple #[.int .u32 0, .int .i64 260]) ∧ Below W.heap.size W w' := by
  have CD := Lib.hid (dec_is w hw y h)
  have f0 : ((y.op : Int) != (x.op : Int)) = false := by rw [n0]; simp
  have f1 : ((y.form : Int) != (x.form : Int)) = false := by rw [n1]; simp
  have f2 : ((y.frm : Int) != (x.frm : Int)) = true := by rw [bne_cast, bne_iff_ne]; exact n2
  clear h n0 n1 n2
  obtain ⟨op, form, frm, kind, rd, rs1, rs2, rs3, rm, imm, csr⟩ := x
  obtain ⟨yop, yform, yfrm, ykind, yrd, yrs1, yrs2, yrs3, yrm, yimm, ycsr⟩ := y
  simp only [] at f0 f1 f2
  have K0 := Lib.hid (Blk.new W (instV ⟨op, form, frm, kind, rd, rs1, rs2, rs3, rm, imm, csr⟩) 27)
  have B0 := Lib.hid ((Below.refl W.heap.size W).alloc (Nat.le_refl _) (.cells (instV ⟨op, form, frm, kind, rd, rs1, rs2, rs3, rm, imm, csr⟩) 27))
  go_enter Try.func24, Try.ntmps24
  go_wp2_with (first
    | (go_at_call 22; (with_reducible refine (CD.out _).mono ?_); rintro e w1 ⟨rfl, b1⟩; clear CD; have k1 := (K0.out.call b1).alloc (.cells (instV ⟨yop, yform, yfrm, ykind, yrd, yrs1, yrs2, yrs3, yrm, yimm, ycsr⟩) 27); have y1 := Blk.new w1 (instV ⟨yop, yform, yfrm, ykind, yrd, yrs1, yrs2, yrs3, yrm, yimm, ycsr⟩) 27; have c0 := k1.cell 0; have d0 := y1.cell 0; have c1 := k1.cell 1; have d1 := y1.cell 1; have c2 := k1.cell 2; have d2 := y1.cell 2; simp only [List.getElem?_toArray, List.getElem?_cons_succ, List.getElem?_cons_zero] at c0 d0 c1 d1 c2 d2))
  go_ret2
  exact ⟨rfl, (below_call B0.out b1).alloc (below_call B0.out b1).size _⟩
theorem with_3 (W : World) (x y : I11) (w : Nat) (hw : w < 4294967296) (h : DEC w = some y) (n0 : y.op = x.op) (n1 : y.form = x.form) (n2 : y.frm = x.frm) (n3 : y.kind ≠ x.kind) : Calls Try.prog 24 #[.int .u32 (w : Nat), .agg (instV x)] W fun e w' => e = .returned (.tuple #[.int .u32 0, .int .i64 260]) ∧ Below W.heap.size W w' := by
  have CD := Lib.hid (dec_is w hw y h)
  have f0 : ((y.op : Int) != (x.op : Int)) = false := by rw [n0]; simp
  have f1 : ((y.form : Int) != (x.form : Int)) = false := by rw [n1]; simp
  have f2 : ((y.frm : Int) != (x.frm : Int)) = false := by rw [n2]; simp
  have f3 : ((y.kind : Int) != (x.kind : Int)) = true := by rw [bne_cast, bne_iff_ne]; exact n3
  clear h n0 n1 n2 n3
  obtain ⟨op, form, frm, kind, rd, rs1, rs2, rs3, rm, imm, csr⟩ := x
  obtain ⟨yop, yform, yfrm, ykind, yrd, yrs1, yrs2, yrs3, yrm, yimm, ycsr⟩ := y
  simp only [] at f0 f1 f2 f3
  have K0 := Lib.hid (Blk.new W (instV ⟨op, form, frm, kind, rd, rs1, rs2, rs3, rm, imm, csr⟩) 27)
  have B0 := Lib.hid ((Below.refl W.heap.size W).alloc (Nat.le_refl _) (.cells (instV ⟨op, form, frm, kind, rd, rs1, rs2, rs3, rm, imm, csr⟩) 27))
  go_enter Try.func24, Try.ntmps24
  go_wp2_with (first
    | (go_at_call 22; (with_reducible refine (CD.out _).mono ?_); rintro e w1 ⟨rfl, b1⟩; clear CD; have k1 := (K0.out.call b1).alloc (.cells (instV ⟨yop, yform, yfrm, ykind, yrd, yrs1, yrs2, yrs3, yrm, yimm, ycsr⟩) 27); have y1 := Blk.new w1 (instV ⟨yop, yform, yfrm, ykind, yrd, yrs1, yrs2, yrs3, yrm, yimm, ycsr⟩) 27; have c0 := k1.cell 0; have d0 := y1.cell 0; have c1 := k1.cell 1; have d1 := y1.cell 1; have c2 := k1.cell 2; have d2 := y1.cell 2; have c3 := k1.cell 3; have d3 := y1.cell 3; simp only [List.getElem?_toArray, List.getElem?_cons_succ, List.getElem?_cons_zero] at c0 d0 c1 d1 c2 d2 c3 d3))
  go_ret2
  exact ⟨rfl, (below_call B0.out b1).alloc (below_call B0.out b1).size _⟩
theorem with_4 (W : World) (x y : I11) (w : Nat) (hw : w < 4294967296) (h : DEC w = some y) (n0 : y.op = x.op) (n1 : y.form = x.form) (n2 : y.frm = x.frm) (n3 : y.kind = x.kind) (v : Nat) (c : Int) (hv : encV x = v) (hc : encE x = c) (hx : Fin11 x) : Calls Try.prog 24 #[.int .u32 (w : Nat), .agg (instV x)] W fun e w' => e = .returned (.tuple #[.int .u32 (v : Nat), .int .i64 c]) ∧ Below W.heap.size W w' := by
  have CD := Lib.hid (dec_is w hw y h)
  have f0 : ((y.op : Int) != (x.op : Int)) = false := by rw [n0]; simp
  have f1 : ((y.form : Int) != (x.form : Int)) = false := by rw [n1]; simp
  have f2 : ((y.frm : Int) != (x.frm : Int)) = false := by rw [n2]; simp
  have f3 : ((y.kind : Int) != (x.kind : Int)) = false := by rw [n3]; simp
  have CE := Lib.hid (fun X => encode_c X x hx)
  rw [hv, hc] at CE
  clear h n0 n1 n2 n3 hv hc hx
  obtain ⟨op, form, frm, kind, rd, rs1, rs2, rs3, rm, imm, csr⟩ := x
  obtain ⟨yop, yform, yfrm, ykind, yrd, yrs1, yrs2, yrs3, yrm, yimm, ycsr⟩ := y
  simp only [] at f0 f1 f2 f3
  have K0 := Lib.hid (Blk.new W (instV ⟨op, form, frm, kind, rd, rs1, rs2, rs3, rm, imm, csr⟩) 27)
  have B0 := Lib.hid ((Below.refl W.heap.size W).alloc (Nat.le_refl _) (.cells (instV ⟨op, form, frm, kind, rd, rs1, rs2, rs3, rm, imm, csr⟩) 27))
  go_enter Try.func24, Try.ntmps24
  go_wp2_with (first
    | (go_at_call 22; (with_reducible refine (CD.out _).mono ?_); rintro e w1 ⟨rfl, b1⟩; clear CD; have k1 := (K0.out.call b1).alloc (.cells (instV ⟨yop, yform, yfrm, ykind, yrd, yrs1, yrs2, yrs3, yrm, yimm, ycsr⟩) 27); have y1 := Blk.new w1 (instV ⟨yop, yform, yfrm, ykind, yrd, yrs1, yrs2, yrs3, yrm, yimm, ycsr⟩) 27; have c0 := k1.cell 0; have d0 := y1.cell 0; have c1 := k1.cell 1; have d1 := y1.cell 1; have c2 := k1.cell 2; have d2 := y1.cell 2; have c3 := k1.cell 3; have d3 := y1.cell 3; simp only [List.getElem?_toArray, List.getElem?_cons_succ, List.getElem?_cons_zero] at c0 d0 c1 d1 c2 d2 c3 d3)
    | (go_at_call 20; (with_reducible refine (CE.out _).mono ?_); rintro e w2 ⟨rfl, b2⟩; clear CE)
    | (refine wpList_load_blk_on rfl _ _ rfl _ rfl _ _ _ k1 Try.underlying27 rfl (by kernel_rfl) ?_))
  go_ret2
  have e1 := (below_call B0.out b1).alloc (below_call B0.out b1).size (.cells (instV ⟨yop, yform, yfrm, ykind, yrd, yrs1, yrs2, yrs3, yrm, yimm, ycsr⟩) 27)
  exact ⟨rfl, below_call e1 b2⟩
theorem with_c (W : World) (x : I11) (hx : Fin11 x) (w : Nat) (hw : w < 4294967296) : Calls Try.prog 24 #[.int .u32 (w : Nat), .agg (instV x)] W fun e w' => e = .returned (.tuple #[.int .u32 ((withV w x).1 : Nat), .int .i64 (withV w x).2]) ∧ Below W.heap.size W w' := by
  unfold withV
  cases h : DEC w with
  | none => exact with_none W x w hw h
  | some y =>
    show Calls _ _ _ _ fun e w' => e = .returned (.tuple #[.int .u32 ((if asksI y x then (encV x, encE x) else (0, 260)).1 : Nat), .int .i64 (if asksI y x then (encV x, encE x) else (0, 260)).2]) ∧ _
    by_cases n0 : y.op = x.op
    · by_cases n1 : y.form = x.form
      · by_cases n2 : y.frm = x.frm
        · by_cases n3 : y.kind = x.kind
          · rw [if_pos (by simp [asksI, n0, n1, n2, n3])]; exact with_4 W x y w hw h n0 n1 n2 n3 _ _ rfl rfl hx
          · rw [if_neg (by simp [asksI, n0, n1, n2, n3])]; exact with_3 W x y w hw h n0 n1 n2 n3
        · rw [if_neg (by simp [asksI, n0, n1, n2])]; exact with_2 W x y w hw h n0 n1 n2
      · rw [if_neg (by simp [asksI, n0, n1])]; exact with_1 W x y w hw h n0 n1
    · rw [if_neg (by simp [asksI, n0])]; exact with_0 W x y w hw h n0
end Go.Proofs.Yteelconabmfnkaa
