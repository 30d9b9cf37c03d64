/- The law EncodeBack: its walk. -/
import Derived.Test.YteelconabmfnkaaLd
namespace Go.Proofs.Yteelconabmfnkaa
open Go Go.RowKit
set_option maxHeartbeats 4000000
set_option maxRecDepth 100000
set_option linter.unusedVariables false
set_option linter.unusedSimpArgs false
theorem eback_t_t (W : World) (x : I11) (hx : Fin11 x) (w : Nat) (hw : w < 4294967296) (h : MAY x = true) (y : I11) (hd : DEC w = some y) : Calls Try.prog 3 #[.agg (instV x), .int .u32 w] W fun e w' => e = .returned (.bool true) ∧ Below W.heap.size W w' := by
  obtain ⟨v, hv⟩ : ∃ v, WORD x = v := ⟨_, rfl⟩
  have hdx := dec_word h
  rw [hv] at hdx
  have CE := Lib.hid (enc_true x hx h v hv)
  have CD := Lib.hid (dec_is v hdx.1 x hdx.2)
  have hne := neq_inst x x
  rw [decide_eq_true (rfl : x = x)] at hne
  clear hdx hv
  have CM := Lib.hid (may_is x hx _ h)
  have hy := dec_fin hw hd
  have hmy := word_dec' hw hd
  have CW := Lib.hid (dec_is w hw y hd)
  have CF := Lib.hid (enc_true y hy hmy.1 w hmy.2)
  have CN := Lib.hid (may_is y hy _ hmy.1)
  clear hy hmy
  clear h hd hx
  obtain ⟨op, form, frm, kind, rd, rs1, rs2, rs3, rm, imm, csr⟩ := x
  obtain ⟨yop, yform, yfrm, ykind, yrd, yrs1, yrs2, yrs3, yrm, yimm, ycsr⟩ := y
  have k0 := Blk.new W (instV ⟨op, form, frm, kind, rd, rs1, rs2, rs3, rm, imm, csr⟩) 27
  have B0 := (Below.refl W.heap.size W).alloc (Nat.le_refl _) (.cells (instV ⟨op, form, frm, kind, rd, rs1, rs2, rs3, rm, imm, csr⟩) 27)
  have K0 := Lib.hid k0
  have HB := Lib.hid B0
  clear k0 B0
  go_enter Try.func3, Try.ntmps3
  go_wp2_with (first
    | (go_at_call 20; (with_reducible refine (CE.out _).mono ?_); rintro e w1 ⟨rfl, b1⟩; clear CE; have k1 := K0.out.call b1)
    | (go_at_call 21; (with_reducible refine (CM.out _).mono ?_); rintro e w2 ⟨rfl, b2⟩; clear CM; have k2 := k1.call b2)
    | (go_at_call 22; (with_reducible refine (CD.out _).mono ?_); rintro e w3 ⟨rfl, b3⟩; clear CD; have k3 := (k2.call b3).alloc (.cells (instV ⟨op, form, frm, kind, rd, rs1, rs2, rs3, rm, imm, csr⟩) 27); have n3 := Blk.new w3 (instV ⟨op, form, frm, kind, rd, rs1, rs2, rs3, rm, imm, csr⟩) 27)
    | (go_at_call 22; (with_reducible refine (CW.out _).mono ?_); rintro e w4 ⟨rfl, b4⟩; clear CW; have n4 := Blk.new w4 (instV ⟨yop, yform, yfrm, ykind, yrd, yrs1, yrs2, yrs3, yrm, yimm, ycsr⟩) 27)
    | (go_at_call 20; (with_reducible refine (CF.out _).mono ?_); rintro e w5 ⟨rfl, b5⟩; clear CF; have n5 := n4.call b5)
    | (go_at_call 21; (with_reducible refine (CN.out _).mono ?_); rintro e w6 ⟨rfl, b6⟩; clear CN)
    | (go_at_call 23; (with_reducible refine (lives26 _).mono ?_); rintro e w7 ⟨rfl, b7⟩)
    | (refine wpList_load_blk_on rfl _ _ rfl _ rfl _ _ _ K0.out Try.underlying27 rfl (by kernel_rfl) ?_)
    | (refine wpList_load_blk_on rfl _ _ rfl _ rfl _ _ _ k1 Try.underlying27 rfl (by kernel_rfl) ?_)
    | (refine wpList_load_blk_on rfl _ _ rfl _ rfl _ _ _ k2 Try.underlying27 rfl (by kernel_rfl) ?_)
    | (refine wpList_load_blk_on rfl _ _ rfl _ rfl _ _ _ n3 Try.underlying27 rfl (by kernel_rfl) ?_)
    | (refine wpList_load_blk_on rfl _ _ rfl _ rfl _ _ _ k3 Try.underlying27 rfl (by kernel_rfl) ?_)
    | (refine wpList_load_blk_on rfl _ _ rfl _ rfl _ _ _ n4 Try.underlying27 rfl (by kernel_rfl) ?_)
    | (refine wpList_load_blk_on rfl _ _ rfl _ rfl _ _ _ n5 Try.underlying27 rfl (by kernel_rfl) ?_))
  go_ret
  have e1 := below_call HB.out b1
  have e2 := below_call e1 b2
  have e3 := (below_call e2 b3).alloc (below_call e2 b3).size (.cells (instV ⟨op, form, frm, kind, rd, rs1, rs2, rs3, rm, imm, csr⟩) 27)
  have e4 := (below_call e3 b4).alloc (below_call e3 b4).size (.cells (instV ⟨yop, yform, yfrm, ykind, yrd, yrs1, yrs2, yrs3, yrm, yimm, ycsr⟩) 27)
  have e6 := below_call (below_call e4 b5) b6
  exact ⟨rfl, below_call e6 b7⟩
theorem eback_t_f (W : World) (x : I11) (hx : Fin11 x) (w : Nat) (hw : w < 4294967296) (h : MAY x = true) (hd : DEC w = none) : Calls Try.prog 3 #[.agg (instV x), .int .u32 w] W fun e w' => e = .returned (.bool true) ∧ Below W.heap.size W w' := by
  obtain ⟨v, hv⟩ : ∃ v, WORD x = v := ⟨_, rfl⟩
  have hdx := dec_word h
  rw [hv] at hdx
  have CE := Lib.hid (enc_true x hx h v hv)
  have CD := Lib.hid (dec_is v hdx.1 x hdx.2)
  have hne := neq_inst x x
  rw [decide_eq_true (rfl : x = x)] at hne
  clear hdx hv
  have CM := Lib.hid (may_is x hx _ h)
  have CW := Lib.hid (dec_not w hw hd)
  clear h hd hx
  obtain ⟨op, form, frm, kind, rd, rs1, rs2, rs3, rm, imm, csr⟩ := x
  have k0 := Blk.new W (instV ⟨op, form, frm, kind, rd, rs1, rs2, rs3, rm, imm, csr⟩) 27
  have B0 := (Below.refl W.heap.size W).alloc (Nat.le_refl _) (.cells (instV ⟨op, form, frm, kind, rd, rs1, rs2, rs3, rm, imm, csr⟩) 27)
  have K0 := Lib.hid k0
  have HB := Lib.hid B0
  clear k0 B0
  go_enter Try.func3, Try.ntmps3
  go_wp2_with (first
    | (go_at_call 20; (with_reducible refine (CE.out _).mono ?_); rintro e w1 ⟨rfl, b1⟩; clear CE; have k1 := K0.out.call b1)
    | (go_at_call 21; (with_reducible refine (CM.out _).mono ?_); rintro e w2 ⟨rfl, b2⟩; clear CM; have k2 := k1.call b2)
    | (go_at_call 22; (with_reducible refine (CD.out _).mono ?_); rintro e w3 ⟨rfl, b3⟩; clear CD; have k3 := (k2.call b3).alloc (.cells (instV ⟨op, form, frm, kind, rd, rs1, rs2, rs3, rm, imm, csr⟩) 27); have n3 := Blk.new w3 (instV ⟨op, form, frm, kind, rd, rs1, rs2, rs3, rm, imm, csr⟩) 27)
    | (go_at_call 22; (with_reducible refine (CW.out _).mono ?_); rintro e w4 ⟨rfl, b4⟩; clear CW)
    | (go_at_call 23; (with_reducible refine (lives26 _).mono ?_); rintro e w7 ⟨rfl, b7⟩)
    | (refine wpList_load_blk_on rfl _ _ rfl _ rfl _ _ _ K0.out Try.underlying27 rfl (by kernel_rfl) ?_)
    | (refine wpList_load_blk_on rfl _ _ rfl _ rfl _ _ _ k1 Try.underlying27 rfl (by kernel_rfl) ?_)
    | (refine wpList_load_blk_on rfl _ _ rfl _ rfl _ _ _ k2 Try.underlying27 rfl (by kernel_rfl) ?_)
    | (refine wpList_load_blk_on rfl _ _ rfl _ rfl _ _ _ n3 Try.underlying27 rfl (by kernel_rfl) ?_)
    | (refine wpList_load_blk_on rfl _ _ rfl _ rfl _ _ _ k3 Try.underlying27 rfl (by kernel_rfl) ?_))
  go_ret
  have e1 := below_call HB.out b1
  have e2 := below_call e1 b2
  have e3 := (below_call e2 b3).alloc (below_call e2 b3).size (.cells (instV ⟨op, form, frm, kind, rd, rs1, rs2, rs3, rm, imm, csr⟩) 27)
  have e4 := (below_call e3 b4).alloc (below_call e3 b4).size (.cells (instV zeroI) 27)
  exact ⟨rfl, below_call e4 b7⟩
theorem eback_f_t (W : World) (x : I11) (hx : Fin11 x) (w : Nat) (hw : w < 4294967296) (h : MAY x = false) (y : I11) (hd : DEC w = some y) : Calls Try.prog 3 #[.agg (instV x), .int .u32 w] W fun e w' => e = .returned (.bool true) ∧ Below W.heap.size W w' := by
  have CE := Lib.hid (enc_false x hx h)
  have CM := Lib.hid (may_is x hx _ h)
  have hy := dec_fin hw hd
  have hmy := word_dec' hw hd
  have CW := Lib.hid (dec_is w hw y hd)
  have CF := Lib.hid (enc_true y hy hmy.1 w hmy.2)
  have CN := Lib.hid (may_is y hy _ hmy.1)
  clear hy hmy
  clear h hd hx
  obtain ⟨op, form, frm, kind, rd, rs1, rs2, rs3, rm, imm, csr⟩ := x
  obtain ⟨yop, yform, yfrm, ykind, yrd, yrs1, yrs2, yrs3, yrm, yimm, ycsr⟩ := y
  have k0 := Blk.new W (instV ⟨op, form, frm, kind, rd, rs1, rs2, rs3, rm, imm, csr⟩) 27
  have B0 := (Below.refl W.heap.size W).alloc (Nat.le_refl _) (.cells (instV ⟨op, form, frm, kind, rd, rs1, rs2, rs3, rm, imm, csr⟩) 27)
  have K0 := Lib.hid k0
  have HB := Lib.hid B0
  clear k0 B0
  go_enter Try.func3, Try.ntmps3
  go_wp2_with (first
    | (go_at_call 20; (with_reducible refine (CE.out _).mono ?_); rintro e w1 ⟨rfl, b1⟩; clear CE; have k1 := K0.out.call b1)
    | (go_at_call 21; (with_reducible refine (CM.out _).mono ?_); rintro e w2 ⟨rfl, b2⟩; clear CM; have k2 := k1.call b2)
    | (go_at_call 22; (with_reducible refine (CW.out _).mono ?_); rintro e w4 ⟨rfl, b4⟩; clear CW; have n4 := Blk.new w4 (instV ⟨yop, yform, yfrm, ykind, yrd, yrs1, yrs2, yrs3, yrm, yimm, ycsr⟩) 27)
    | (go_at_call 20; (with_reducible refine (CF.out _).mono ?_); rintro e w5 ⟨rfl, b5⟩; clear CF; have n5 := n4.call b5)
    | (go_at_call 21; (with_reducible refine (CN.out _).mono ?_); rintro e w6 ⟨rfl, b6⟩; clear CN)
    | (go_at_call 23; (with_reducible refine (lives26 _).mono ?_); rintro e w7 ⟨rfl, b7⟩)
    | (refine wpList_load_blk_on rfl _ _ rfl _ rfl _ _ _ K0.out Try.underlying27 rfl (by kernel_rfl) ?_)
    | (refine wpList_load_blk_on rfl _ _ rfl _ rfl _ _ _ k1 Try.underlying27 rfl (by kernel_rfl) ?_)
    | (refine wpList_load_blk_on rfl _ _ rfl _ rfl _ _ _ k2 Try.underlying27 rfl (by kernel_rfl) ?_)
    | (refine wpList_load_blk_on rfl _ _ rfl _ rfl _ _ _ n4 Try.underlying27 rfl (by kernel_rfl) ?_)
    | (refine wpList_load_blk_on rfl _ _ rfl _ rfl _ _ _ n5 Try.underlying27 rfl (by kernel_rfl) ?_))
  go_ret
  have e1 := below_call HB.out b1
  have e2 := below_call e1 b2
  have e4 := (below_call e2 b4).alloc (below_call e2 b4).size (.cells (instV ⟨yop, yform, yfrm, ykind, yrd, yrs1, yrs2, yrs3, yrm, yimm, ycsr⟩) 27)
  have e6 := below_call (below_call e4 b5) b6
  exact ⟨rfl, below_call e6 b7⟩
theorem eback_f_f (W : World) (x : I11) (hx : Fin11 x) (w : Nat) (hw : w < 4294967296) (h : MAY x = false) (hd : DEC w = none) : Calls Try.prog 3 #[.agg (instV x), .int .u32 w] W fun e w' => e = .returned (.bool true) ∧ Below W.heap.size W w' := by
  have CE := Lib.hid (enc_false x hx h)
  have CM := Lib.hid (may_is x hx _ h)
  have CW := Lib.hid (dec_not w hw hd)
  clear h hd hx
  obtain ⟨op, form, frm, kind, rd, rs1, rs2, rs3, rm, imm, csr⟩ := x
  have k0 := Blk.new W (instV ⟨op, form, frm, kind, rd, rs1, rs2, rs3, rm, imm, csr⟩) 27
  have B0 := (Below.refl W.heap.size W).alloc (Nat.le_refl _) (.cells (instV ⟨op, form, frm, kind, rd, rs1, rs2, rs3, rm, imm, csr⟩) 27)
  have K0 := Lib.hid k0
  have HB := Lib.hid B0
  clear k0 B0
  go_enter Try.func3, Try.ntmps3
  go_wp2_with (first
    | (go_at_call 20; (with_reducible refine (CE.out _).mono ?_); rintro e w1 ⟨rfl, b1⟩; clear CE; have k1 := K0.out.call b1)
    | (go_at_call 21; (with_reducible refine (CM.out _).mono ?_); rintro e w2 ⟨rfl, b2⟩; clear CM; have k2 := k1.call b2)
    | (go_at_call 22; (with_reducible refine (CW.out _).mono ?_); rintro e w4 ⟨rfl, b4⟩; clear CW)
    | (go_at_call 23; (with_reducible refine (lives26 _).mono ?_); rintro e w7 ⟨rfl, b7⟩)
    | (refine wpList_load_blk_on rfl _ _ rfl _ rfl _ _ _ K0.out Try.underlying27 rfl (by kernel_rfl) ?_)
    | (refine wpList_load_blk_on rfl _ _ rfl _ rfl _ _ _ k1 Try.underlying27 rfl (by kernel_rfl) ?_)
    | (refine wpList_load_blk_on rfl _ _ rfl _ rfl _ _ _ k2 Try.underlying27 rfl (by kernel_rfl) ?_))
  go_ret
  have e1 := below_call HB.out b1
  have e2 := below_call e1 b2
  have e4 := (below_call e2 b4).alloc (below_call e2 b4).size (.cells (instV zeroI) 27)
  exact ⟨rfl, below_call e4 b7⟩
theorem encodeBack_c (W : World) (x : I11) (w : Nat) (hx : Fin11 x) (hw : w < 4294967296) : Calls Try.prog 3 #[.agg (instV x), .int .u32 w] W fun e w' => e = .returned (.bool true) ∧ Below W.heap.size W w' := by
  cases h : MAY x <;> cases hd : DEC w
  · exact eback_f_f W x hx w hw h hd
  · exact eback_f_t W x hx w hw h _ hd
  · exact eback_t_f W x hx w hw h hd
  · exact eback_t_t W x hx w hw h _ hd
theorem walk_EncodeBack (x : I11) (w : Nat) (W : World) (bx : Bx x) (hw : w < 4294967296) : Calls Try.prog 3 #[.agg (instV x), .int .u32 (w : Nat)] W fun e w' => e = .returned (.bool true) ∧ Below W.heap.size W w' :=
  encodeBack_c W x w (fin_of bx) hw
end Go.Proofs.Yteelconabmfnkaa
