/- The law EncodeWith: its walk. -/
import Derived.Test.YteelconabmfnkaaVta
import Derived.Test.YteelconabmfnkaaEj
import Derived.Test.YteelconabmfnkaaLd
namespace Go.Proofs.Yteelconabmfnkaa
open Go Go.RowKit
set_option maxHeartbeats 4000000
set_option maxRecDepth 100000
set_option linter.unusedVariables false
set_option linter.unusedSimpArgs false
theorem ewith_none (W : World) (x : I11) (w : Nat) (hw : w < 4294967296) (hF : FINDN w = none) (hx : Fin11 x) : Calls Try.prog 4 #[.int .u32 w, .agg (instV x)] W fun e w' => e = .returned (.bool true) ∧ Below W.heap.size W w' := by
  have hd : DEC w = none := by unfold DEC; rw [← findn_map, hF]; rfl
  have CW := Lib.hid (fun X => with_c X x hx w hw)
  have e1 : withV w x = (0, 250) := by unfold withV; rw [hd]
  rw [e1] at CW
  have CF : Hid (∀ X, Calls Try.prog 25 #[.int .u32 w] X fun e w' => e = .returned (.tuple #[.agg (entV zeroR emp), .bool false]) ∧ Below X.heap.size X w') := Lib.hid fun X => by
    have := rfind_c X w hw
    unfold RFindP at this
    rw [hF] at this
    exact this
  clear hd e1 hF hx
  obtain ⟨op, form, frm, kind, rd, rs1, rs2, rs3, rm, imm, csr⟩ := x
  obtain ⟨nm, hnm⟩ : ∃ nm, emp = nm := ⟨_, rfl⟩
  rw [hnm] at CF
  clear hnm
  have K0 := Lib.hid (Blk.new W (instV ⟨op, form, frm, kind, rd, rs1, rs2, rs3, rm, imm, csr⟩) 27)
  have B0 := Lib.hid ((Below.refl W.heap.size W).alloc (Nat.le_refl _) (.cells (instV ⟨op, form, frm, kind, rd, rs1, rs2, rs3, rm, imm, csr⟩) 27))
  go_enter Try.func4, Try.ntmps4
  go_wp2_with (first
    | (go_at_call 24; (with_reducible refine (CW.out _).mono ?_); rintro e w1 ⟨rfl, b1⟩; clear CW; have k1 := K0.out.call b1)
    | (go_at_call 25; (with_reducible refine (CF.out _).mono ?_); rintro e w2 ⟨rfl, b2⟩; clear CF; have k2 := (k1.call b2).alloc (.cells (entV zeroR nm) 42))
    | (go_at_call 23; (with_reducible refine (lives26 _).mono ?_); rintro e w7 ⟨rfl, b7⟩)
    | (refine wpList_load_blk rfl _ _ rfl _ rfl _ _ _ K0.out Try.underlying27 rfl (by kernel_rfl) ?_))
  go_ret
  have e2 := (below_call (below_call B0.out b1) b2).alloc (below_call (below_call B0.out b1) b2).size (.cells (entV zeroR nm) 42)
  exact ⟨rfl, below_call e2 b7⟩
theorem ewith_e (W : World) (op form frm kind rd rs1 rs2 rs3 rm : Nat) (imm : Int) (csr : Nat) (w : Nat) (hw : w < 4294967296) (rop rform rfrm rkind rmask rmtch rlay : Nat) (nm : ByteArray) (hF : FINDN w = some (⟨rop, rform, rfrm, rkind, rmask, rmtch, rlay⟩, nm)) (v a : Nat) (c b : Int) (CW : Hid (∀ X, Calls Try.prog 24 #[.int .u32 (w : Nat), .agg (instV ⟨op, form, frm, kind, rd, rs1, rs2, rs3, rm, imm, csr⟩)] X fun e w' => e = .returned (.tuple #[.int .u32 (a : Nat), .int .i64 b]) ∧ Below X.heap.size X w')) (CR : Hid (∀ X, Calls Try.prog 26 #[.agg (instV ⟨op, form, frm, kind, rd, rs1, rs2, rs3, rm, imm, csr⟩)] X fun e w' => e = .returned (.tuple #[.int .u32 (v : Nat), .int .i64 c]) ∧ Below X.heap.size X w')) (hc : (c != 0) = true) (ha : a = 0) (hb : b = 260) : Calls Try.prog 4 #[.int .u32 w, .agg (instV ⟨op, form, frm, kind, rd, rs1, rs2, rs3, rm, imm, csr⟩)] W fun e w' => e = .returned (.bool true) ∧ Below W.heap.size W w' := by
  subst ha hb
  have CF : Hid (∀ X, Calls Try.prog 25 #[.int .u32 w] X fun e w' => e = .returned (.tuple #[.agg (entV ⟨rop, rform, rfrm, rkind, rmask, rmtch, rlay⟩ nm), .bool true]) ∧ Below X.heap.size X w') := Lib.hid fun X => by
    have := rfind_c X w hw
    unfold RFindP at this
    rw [hF] at this
    exact this
  clear hF hw
  have K0 := Lib.hid (Blk.new W (instV ⟨op, form, frm, kind, rd, rs1, rs2, rs3, rm, imm, csr⟩) 27)
  have B0 := Lib.hid ((Below.refl W.heap.size W).alloc (Nat.le_refl _) (.cells (instV ⟨op, form, frm, kind, rd, rs1, rs2, rs3, rm, imm, csr⟩) 27))
  go_enter Try.func4, Try.ntmps4
  go_wp2_with (first
    | (go_at_call 24; (with_reducible refine (CW.out _).mono ?_); rintro e w1 ⟨rfl, b1⟩; clear CW; have k1 := K0.out.call b1)
    | (go_at_call 25; (with_reducible refine (CF.out _).mono ?_); rintro e w2 ⟨rfl, b2⟩; clear CF; have k2 := (k1.call b2).alloc (.cells (entV ⟨rop, rform, rfrm, rkind, rmask, rmtch, rlay⟩ nm) 42); have z2 := Blk.new w2 (entV ⟨rop, rform, rfrm, rkind, rmask, rmtch, rlay⟩ nm) 42; have y0 := z2.cell 0; have y1 := z2.cell 1; have y2 := z2.cell 2; have y3 := z2.cell 3; have y4 := z2.cell 4; have y5 := z2.cell 5; have y6 := z2.cell 6; simp only [List.getElem?_toArray, List.getElem?_cons_succ, List.getElem?_cons_zero] at y0 y1 y2 y3 y4 y5 y6; have k3 := k2.alloc (.cells (rowV ⟨rop, rform, rfrm, rkind, rmask, rmtch, rlay⟩) 40))
    | (go_at_call 23; (with_reducible refine (lives26 _).mono ?_); rintro e w7 ⟨rfl, b7⟩)
    | (refine wpList_load_blk rfl _ _ rfl _ rfl _ _ _ K0.out Try.underlying27 rfl (by kernel_rfl) ?_)
    | (go_at_call 26; (with_reducible refine (CR.out _).mono ?_); rintro e w3 ⟨rfl, b3⟩; clear CR; have k4 := k3.call b3; have q4 := (Blk.new (w2.alloc (.cells (entV ⟨rop, rform, rfrm, rkind, rmask, rmtch, rlay⟩ nm) 42)) (rowV ⟨rop, rform, rfrm, rkind, rmask, rmtch, rlay⟩) 40).call b3; have c0 := k4.cell 0; have c1 := k4.cell 1; have c2 := k4.cell 2; have c3 := k4.cell 3; have r0 := q4.cell 0; have r1 := q4.cell 1; have r2 := q4.cell 2; have r3 := q4.cell 3; simp only [List.getElem?_toArray, List.getElem?_cons_succ, List.getElem?_cons_zero, World.size_alloc] at c0 c1 c2 c3 r0 r1 r2 r3)
    | (refine wpList_load_blk rfl _ _ rfl _ rfl _ _ _ k3 Try.underlying27 rfl (by kernel_rfl) ?_))
  go_ret
  have e2 := (below_call (below_call B0.out b1) b2).alloc (below_call (below_call B0.out b1) b2).size (.cells (entV ⟨rop, rform, rfrm, rkind, rmask, rmtch, rlay⟩ nm) 42)
  have e3 := e2.alloc e2.size (.cells (rowV ⟨rop, rform, rfrm, rkind, rmask, rmtch, rlay⟩) 40)
  exact ⟨rfl, below_call (below_call e3 b3) b7⟩
theorem ewith_0 (W : World) (op form frm kind rd rs1 rs2 rs3 rm : Nat) (imm : Int) (csr : Nat) (w : Nat) (hw : w < 4294967296) (rop rform rfrm rkind rmask rmtch rlay : Nat) (nm : ByteArray) (hF : FINDN w = some (⟨rop, rform, rfrm, rkind, rmask, rmtch, rlay⟩, nm)) (v a : Nat) (c b : Int) (CW : Hid (∀ X, Calls Try.prog 24 #[.int .u32 (w : Nat), .agg (instV ⟨op, form, frm, kind, rd, rs1, rs2, rs3, rm, imm, csr⟩)] X fun e w' => e = .returned (.tuple #[.int .u32 (a : Nat), .int .i64 b]) ∧ Below X.heap.size X w')) (CR : Hid (∀ X, Calls Try.prog 26 #[.agg (instV ⟨op, form, frm, kind, rd, rs1, rs2, rs3, rm, imm, csr⟩)] X fun e w' => e = .returned (.tuple #[.int .u32 (v : Nat), .int .i64 c]) ∧ Below X.heap.size X w')) (hc : c = 0) (ha : a = 0) (hb : b = 260) (y0 : ((op : Int) != (rop : Int)) = true) : Calls Try.prog 4 #[.int .u32 w, .agg (instV ⟨op, form, frm, kind, rd, rs1, rs2, rs3, rm, imm, csr⟩)] W fun e w' => e = .returned (.bool true) ∧ Below W.heap.size W w' := by
  subst ha hb hc
  have CF : Hid (∀ X, Calls Try.prog 25 #[.int .u32 w] X fun e w' => e = .returned (.tuple #[.agg (entV ⟨rop, rform, rfrm, rkind, rmask, rmtch, rlay⟩ nm), .bool true]) ∧ Below X.heap.size X w') := Lib.hid fun X => by
    have := rfind_c X w hw
    unfold RFindP at this
    rw [hF] at this
    exact this
  clear hF hw
  have K0 := Lib.hid (Blk.new W (instV ⟨op, form, frm, kind, rd, rs1, rs2, rs3, rm, imm, csr⟩) 27)
  have B0 := Lib.hid ((Below.refl W.heap.size W).alloc (Nat.le_refl _) (.cells (instV ⟨op, form, frm, kind, rd, rs1, rs2, rs3, rm, imm, csr⟩) 27))
  go_enter Try.func4, Try.ntmps4
  go_wp2_with (first
    | (go_at_call 24; (with_reducible refine (CW.out _).mono ?_); rintro e w1 ⟨rfl, b1⟩; clear CW; have k1 := K0.out.call b1)
    | (go_at_call 25; (with_reducible refine (CF.out _).mono ?_); rintro e w2 ⟨rfl, b2⟩; clear CF; have k2 := (k1.call b2).alloc (.cells (entV ⟨rop, rform, rfrm, rkind, rmask, rmtch, rlay⟩ nm) 42); have z2 := Blk.new w2 (entV ⟨rop, rform, rfrm, rkind, rmask, rmtch, rlay⟩ nm) 42; have y0 := z2.cell 0; have y1 := z2.cell 1; have y2 := z2.cell 2; have y3 := z2.cell 3; have y4 := z2.cell 4; have y5 := z2.cell 5; have y6 := z2.cell 6; simp only [List.getElem?_toArray, List.getElem?_cons_succ, List.getElem?_cons_zero] at y0 y1 y2 y3 y4 y5 y6; have k3 := k2.alloc (.cells (rowV ⟨rop, rform, rfrm, rkind, rmask, rmtch, rlay⟩) 40))
    | (go_at_call 23; (with_reducible refine (lives26 _).mono ?_); rintro e w7 ⟨rfl, b7⟩)
    | (refine wpList_load_blk rfl _ _ rfl _ rfl _ _ _ K0.out Try.underlying27 rfl (by kernel_rfl) ?_)
    | (go_at_call 26; (with_reducible refine (CR.out _).mono ?_); rintro e w3 ⟨rfl, b3⟩; clear CR; have k4 := k3.call b3; have q4 := (Blk.new (w2.alloc (.cells (entV ⟨rop, rform, rfrm, rkind, rmask, rmtch, rlay⟩ nm) 42)) (rowV ⟨rop, rform, rfrm, rkind, rmask, rmtch, rlay⟩) 40).call b3; have c0 := k4.cell 0; have c1 := k4.cell 1; have c2 := k4.cell 2; have c3 := k4.cell 3; have r0 := q4.cell 0; have r1 := q4.cell 1; have r2 := q4.cell 2; have r3 := q4.cell 3; simp only [List.getElem?_toArray, List.getElem?_cons_succ, List.getElem?_cons_zero, World.size_alloc] at c0 c1 c2 c3 r0 r1 r2 r3)
    | (refine wpList_load_blk rfl _ _ rfl _ rfl _ _ _ k3 Try.underlying27 rfl (by kernel_rfl) ?_))
  go_ret
  have e2 := (below_call (below_call B0.out b1) b2).alloc (below_call (below_call B0.out b1) b2).size (.cells (entV ⟨rop, rform, rfrm, rkind, rmask, rmtch, rlay⟩ nm) 42)
  have e3 := e2.alloc e2.size (.cells (rowV ⟨rop, rform, rfrm, rkind, rmask, rmtch, rlay⟩) 40)
  exact ⟨rfl, below_call (below_call e3 b3) b7⟩
theorem ewith_1 (W : World) (op form frm kind rd rs1 rs2 rs3 rm : Nat) (imm : Int) (csr : Nat) (w : Nat) (hw : w < 4294967296) (rop rform rfrm rkind rmask rmtch rlay : Nat) (nm : ByteArray) (hF : FINDN w = some (⟨rop, rform, rfrm, rkind, rmask, rmtch, rlay⟩, nm)) (v a : Nat) (c b : Int) (CW : Hid (∀ X, Calls Try.prog 24 #[.int .u32 (w : Nat), .agg (instV ⟨op, form, frm, kind, rd, rs1, rs2, rs3, rm, imm, csr⟩)] X fun e w' => e = .returned (.tuple #[.int .u32 (a : Nat), .int .i64 b]) ∧ Below X.heap.size X w')) (CR : Hid (∀ X, Calls Try.prog 26 #[.agg (instV ⟨op, form, frm, kind, rd, rs1, rs2, rs3, rm, imm, csr⟩)] X fun e w' => e = .returned (.tuple #[.int .u32 (v : Nat), .int .i64 c]) ∧ Below X.heap.size X w')) (hc : c = 0) (ha : a = 0) (hb : b = 260) (y0 : ((op : Int) != (rop : Int)) = false) (y1 : ((form : Int) != (rform : Int)) = true) : Calls Try.prog 4 #[.int .u32 w, .agg (instV ⟨op, form, frm, kind, rd, rs1, rs2, rs3, rm, imm, csr⟩)] W fun e w' => e = .returned (.bool true) ∧ Below W.heap.size W w' := by
  subst ha hb hc
  have CF : Hid (∀ X, Calls Try.prog 25 #[.int .u32 w] X fun e w' => e = .returned (.tuple #[.agg (entV ⟨rop, rform, rfrm, rkind, rmask, rmtch, rlay⟩ nm), .bool true]) ∧ Below X.heap.size X w') := Lib.hid fun X => by
    have := rfind_c X w hw
    unfold RFindP at this
    rw [hF] at this
    exact this
  clear hF hw
  have K0 := Lib.hid (Blk.new W (instV ⟨op, form, frm, kind, rd, rs1, rs2, rs3, rm, imm, csr⟩) 27)
  have B0 := Lib.hid ((Below.refl W.heap.size W).alloc (Nat.le_refl _) (.cells (instV ⟨op, form, frm, kind, rd, rs1, rs2, rs3, rm, imm, csr⟩) 27))
  go_enter Try.func4, Try.ntmps4
  go_wp2_with (first
    | (go_at_call 24; (with_reducible refine (CW.out _).mono ?_); rintro e w1 ⟨rfl, b1⟩; clear CW; have k1 := K0.out.call b1)
    | (go_at_call 25; (with_reducible refine (CF.out _).mono ?_); rintro e w2 ⟨rfl, b2⟩; clear CF; have k2 := (k1.call b2).alloc (.cells (entV ⟨rop, rform, rfrm, rkind, rmask, rmtch, rlay⟩ nm) 42); have z2 := Blk.new w2 (entV ⟨rop, rform, rfrm, rkind, rmask, rmtch, rlay⟩ nm) 42; have y0 := z2.cell 0; have y1 := z2.cell 1; have y2 := z2.cell 2; have y3 := z2.cell 3; have y4 := z2.cell 4; have y5 := z2.cell 5; have y6 := z2.cell 6; simp only [List.getElem?_toArray, List.getElem?_cons_succ, List.getElem?_cons_zero] at y0 y1 y2 y3 y4 y5 y6; have k3 := k2.alloc (.cells (rowV ⟨rop, rform, rfrm, rkind, rmask, rmtch, rlay⟩) 40))
    | (go_at_call 23; (with_reducible refine (lives26 _).mono ?_); rintro e w7 ⟨rfl, b7⟩)
    | (refine wpList_load_blk rfl _ _ rfl _ rfl _ _ _ K0.out Try.underlying27 rfl (by kernel_rfl) ?_)
    | (go_at_call 26; (with_reducible refine (CR.out _).mono ?_); rintro e w3 ⟨rfl, b3⟩; clear CR; have k4 := k3.call b3; have q4 := (Blk.new (w2.alloc (.cells (entV ⟨rop, rform, rfrm, rkind, rmask, rmtch, rlay⟩ nm) 42)) (rowV ⟨rop, rform, rfrm, rkind, rmask, rmtch, rlay⟩) 40).call b3; have c0 := k4.cell 0; have c1 := k4.cell 1; have c2 := k4.cell 2; have c3 := k4.cell 3; have r0 := q4.cell 0; have r1 := q4.cell 1; have r2 := q4.cell 2; have r3 := q4.cell 3; simp only [List.getElem?_toArray, List.getElem?_cons_succ, List.getElem?_cons_zero, World.size_alloc] at c0 c1 c2 c3 r0 r1 r2 r3)
    | (refine wpList_load_blk rfl _ _ rfl _ rfl _ _ _ k3 Try.underlying27 rfl (by kernel_rfl) ?_))
  go_ret
  have e2 := (below_call (below_call B0.out b1) b2).alloc (below_call (below_call B0.out b1) b2).size (.cells (entV ⟨rop, rform, rfrm, rkind, rmask, rmtch, rlay⟩ nm) 42)
  have e3 := e2.alloc e2.size (.cells (rowV ⟨rop, rform, rfrm, rkind, rmask, rmtch, rlay⟩) 40)
  exact ⟨rfl, below_call (below_call e3 b3) b7⟩
theorem ewith_2 (W : World) (op form frm kind rd rs1 rs2 rs3 rm : Nat) (imm : Int) (csr : Nat) (w : Nat) (hw : w < 4294967296) (rop rform rfrm rkind rmask rmtch rlay : Nat) (nm : ByteArray) (hF : FINDN w = some (⟨rop, rform, rfrm, rkind, rmask, rmtch, rlay⟩, nm)) (v a : Nat) (c b : Int) (CW : Hid (∀ X, Calls Try.prog 24 #[.int .u32 (w : Nat), .agg (instV ⟨op, form, frm, kind, rd, rs1, rs2, rs3, rm, imm, csr⟩)] X fun e w' => e = .returned (.tuple #[.int .u32 (a : Nat), .int .i64 b]) ∧ Below X.heap.size X w')) (CR : Hid (∀ X, Calls Try.prog 26 #[.agg (instV ⟨op, form, frm, kind, rd, rs1, rs2, rs3, rm, imm, csr⟩)] X fun e w' => e = .returned (.tuple #[.int .u32 (v : Nat), .int .i64 c]) ∧ Below X.heap.size X w')) (hc : c = 0) (ha : a = 0) (hb : b = 260) (y0 : ((op : Int) != (rop : Int)) = false) (y1 : ((form : Int) != (rform : Int)) = false) (y2 : ((frm : Int) != (rfrm : Int)) = true) : Calls Try.prog 4 #[.int .u32 w, .agg (instV ⟨op, form, frm, kind, rd, rs1, rs2, rs3, rm, imm, csr⟩)] W fun e w' => e = .returned (.bool true) ∧ Below W.heap.size W w' := by
  subst ha hb hc
  have CF : Hid (∀ X, Calls Try.prog 25 #[.int .u32 w] X fun e w' => e = .returned (.tuple #[.agg (entV ⟨rop, rform, rfrm, rkind, rmask, rmtch, rlay⟩ nm), .bool true]) ∧ Below X.heap.size X w') := Lib.hid fun X => by
    have := rfind_c X w hw
    unfold RFindP at this
    rw [hF] at this
    exact this
  clear hF hw
  have K0 := Lib.hid (Blk.new W (instV ⟨op, form, frm, kind, rd, rs1, rs2, rs3, rm, imm, csr⟩) 27)
  have B0 := Lib.hid ((Below.refl W.heap.size W).alloc (Nat.le_refl _) (.cells (instV ⟨op, form, frm, kind, rd, rs1, rs2, rs3, rm, imm, csr⟩) 27))
  go_enter Try.func4, Try.ntmps4
  go_wp2_with (first
    | (go_at_call 24; (with_reducible refine (CW.out _).mono ?_); rintro e w1 ⟨rfl, b1⟩; clear CW; have k1 := K0.out.call b1)
    | (go_at_call 25; (with_reducible refine (CF.out _).mono ?_); rintro e w2 ⟨rfl, b2⟩; clear CF; have k2 := (k1.call b2).alloc (.cells (entV ⟨rop, rform, rfrm, rkind, rmask, rmtch, rlay⟩ nm) 42); have z2 := Blk.new w2 (entV ⟨rop, rform, rfrm, rkind, rmask, rmtch, rlay⟩ nm) 42; have y0 := z2.cell 0; have y1 := z2.cell 1; have y2 := z2.cell 2; have y3 := z2.cell 3; have y4 := z2.cell 4; have y5 := z2.cell 5; have y6 := z2.cell 6; simp only [List.getElem?_toArray, List.getElem?_cons_succ, List.getElem?_cons_zero] at y0 y1 y2 y3 y4 y5 y6; have k3 := k2.alloc (.cells (rowV ⟨rop, rform, rfrm, rkind, rmask, rmtch, rlay⟩) 40))
    | (go_at_call 23; (with_reducible refine (lives26 _).mono ?_); rintro e w7 ⟨rfl, b7⟩)
    | (refine wpList_load_blk rfl _ _ rfl _ rfl _ _ _ K0.out Try.underlying27 rfl (by kernel_rfl) ?_)
    | (go_at_call 26; (with_reducible refine (CR.out _).mono ?_); rintro e w3 ⟨rfl, b3⟩; clear CR; have k4 := k3.call b3; have q4 := (Blk.new (w2.alloc (.cells (entV ⟨rop, rform, rfrm, rkind, rmask, rmtch, rlay⟩ nm) 42)) (rowV ⟨rop, rform, rfrm, rkind, rmask, rmtch, rlay⟩) 40).call b3; have c0 := k4.cell 0; have c1 := k4.cell 1; have c2 := k4.cell 2; have c3 := k4.cell 3; have r0 := q4.cell 0; have r1 := q4.cell 1; have r2 := q4.cell 2; have r3 := q4.cell 3; simp only [List.getElem?_toArray, List.getElem?_cons_succ, List.getElem?_cons_zero, World.size_alloc] at c0 c1 c2 c3 r0 r1 r2 r3)
    | (refine wpList_load_blk rfl _ _ rfl _ rfl _ _ _ k3 Try.underlying27 rfl (by kernel_rfl) ?_))
  go_ret
  have e2 := (below_call (below_call B0.out b1) b2).alloc (below_call (below_call B0.out b1) b2).size (.cells (entV ⟨rop, rform, rfrm, rkind, rmask, rmtch, rlay⟩ nm) 42)
  have e3 := e2.alloc e2.size (.cells (rowV ⟨rop, rform, rfrm, rkind, rmask, rmtch, rlay⟩) 40)
  exact ⟨rfl, below_call (below_call e3 b3) b7⟩
theorem ewith_3 (W : World) (op form frm kind rd rs1 rs2 rs3 rm : Nat) (imm : Int) (csr : Nat) (w : Nat) (hw : w < 4294967296) (rop rform rfrm rkind rmask rmtch rlay : Nat) (nm : ByteArray) (hF : FINDN w = some (⟨rop, rform, rfrm, rkind, rmask, rmtch, rlay⟩, nm)) (v a : Nat) (c b : Int) (CW : Hid (∀ X, Calls Try.prog 24 #[.int .u32 (w : Nat), .agg (instV ⟨op, form, frm, kind, rd, rs1, rs2, rs3, rm, imm, csr⟩)] X fun e w' => e = .returned (.tuple #[.int .u32 (a : Nat), .int .i64 b]) ∧ Below X.heap.size X w')) (CR : Hid (∀ X, Calls Try.prog 26 #[.agg (instV ⟨op, form, frm, kind, rd, rs1, rs2, rs3, rm, imm, csr⟩)] X fun e w' => e = .returned (.tuple #[.int .u32 (v : Nat), .int .i64 c]) ∧ Below X.heap.size X w')) (hc : c = 0) (ha : a = 0) (hb : b = 260) (y0 : ((op : Int) != (rop : Int)) = false) (y1 : ((form : Int) != (rform : Int)) = false) (y2 : ((frm : Int) != (rfrm : Int)) = false) (y3 : ((kind : Int) != (rkind : Int)) = true) : Calls Try.prog 4 #[.int .u32 w, .agg (instV ⟨op, form, frm, kind, rd, rs1, rs2, rs3, rm, imm, csr⟩)] W fun e w' => e = .returned (.bool true) ∧ Below W.heap.size W w' := by
  subst ha hb hc
  have CF : Hid (∀ X, Calls Try.prog 25 #[.int .u32 w] X fun e w' => e = .returned (.tuple #[.agg (entV ⟨rop, rform, rfrm, rkind, rmask, rmtch, rlay⟩ nm), .bool true]) ∧ Below X.heap.size X w') := Lib.hid fun X => by
    have := rfind_c X w hw
    unfold RFindP at this
    rw [hF] at this
    exact this
  clear hF hw
  have K0 := Lib.hid (Blk.new W (instV ⟨op, form, frm, kind, rd, rs1, rs2, rs3, rm, imm, csr⟩) 27)
  have B0 := Lib.hid ((Below.refl W.heap.size W).alloc (Nat.le_refl _) (.cells (instV ⟨op, form, frm, kind, rd, rs1, rs2, rs3, rm, imm, csr⟩) 27))
  go_enter Try.func4, Try.ntmps4
  go_wp2_with (first
    | (go_at_call 24; (with_reducible refine (CW.out _).mono ?_); rintro e w1 ⟨rfl, b1⟩; clear CW; have k1 := K0.out.call b1)
    | (go_at_call 25; (with_reducible refine (CF.out _).mono ?_); rintro e w2 ⟨rfl, b2⟩; clear CF; have k2 := (k1.call b2).alloc (.cells (entV ⟨rop, rform, rfrm, rkind, rmask, rmtch, rlay⟩ nm) 42); have z2 := Blk.new w2 (entV ⟨rop, rform, rfrm, rkind, rmask, rmtch, rlay⟩ nm) 42; have y0 := z2.cell 0; have y1 := z2.cell 1; have y2 := z2.cell 2; have y3 := z2.cell 3; have y4 := z2.cell 4; have y5 := z2.cell 5; have y6 := z2.cell 6; simp only [List.getElem?_toArray, List.getElem?_cons_succ, List.getElem?_cons_zero] at y0 y1 y2 y3 y4 y5 y6; have k3 := k2.alloc (.cells (rowV ⟨rop, rform, rfrm, rkind, rmask, rmtch, rlay⟩) 40))
    | (go_at_call 23; (with_reducible refine (lives26 _).mono ?_); rintro e w7 ⟨rfl, b7⟩)
    | (refine wpList_load_blk rfl _ _ rfl _ rfl _ _ _ K0.out Try.underlying27 rfl (by kernel_rfl) ?_)
    | (go_at_call 26; (with_reducible refine (CR.out _).mono ?_); rintro e w3 ⟨rfl, b3⟩; clear CR; have k4 := k3.call b3; have q4 := (Blk.new (w2.alloc (.cells (entV ⟨rop, rform, rfrm, rkind, rmask, rmtch, rlay⟩ nm) 42)) (rowV ⟨rop, rform, rfrm, rkind, rmask, rmtch, rlay⟩) 40).call b3; have c0 := k4.cell 0; have c1 := k4.cell 1; have c2 := k4.cell 2; have c3 := k4.cell 3; have r0 := q4.cell 0; have r1 := q4.cell 1; have r2 := q4.cell 2; have r3 := q4.cell 3; simp only [List.getElem?_toArray, List.getElem?_cons_succ, List.getElem?_cons_zero, World.size_alloc] at c0 c1 c2 c3 r0 r1 r2 r3)
    | (refine wpList_load_blk rfl _ _ rfl _ rfl _ _ _ k3 Try.underlying27 rfl (by kernel_rfl) ?_))
  go_ret
  have e2 := (below_call (below_call B0.out b1) b2).alloc (below_call (below_call B0.out b1) b2).size (.cells (entV ⟨rop, rform, rfrm, rkind, rmask, rmtch, rlay⟩ nm) 42)
  have e3 := e2.alloc e2.size (.cells (rowV ⟨rop, rform, rfrm, rkind, rmask, rmtch, rlay⟩) 40)
  exact ⟨rfl, below_call (below_call e3 b3) b7⟩
theorem ewith_ok (W : World) (op form frm kind rd rs1 rs2 rs3 rm : Nat) (imm : Int) (csr : Nat) (w : Nat) (hw : w < 4294967296) (rop rform rfrm rkind rmask rmtch rlay : Nat) (nm : ByteArray) (hF : FINDN w = some (⟨rop, rform, rfrm, rkind, rmask, rmtch, rlay⟩, nm)) (v a : Nat) (c b : Int) (CW : Hid (∀ X, Calls Try.prog 24 #[.int .u32 (w : Nat), .agg (instV ⟨op, form, frm, kind, rd, rs1, rs2, rs3, rm, imm, csr⟩)] X fun e w' => e = .returned (.tuple #[.int .u32 (a : Nat), .int .i64 b]) ∧ Below X.heap.size X w')) (CR : Hid (∀ X, Calls Try.prog 26 #[.agg (instV ⟨op, form, frm, kind, rd, rs1, rs2, rs3, rm, imm, csr⟩)] X fun e w' => e = .returned (.tuple #[.int .u32 (v : Nat), .int .i64 c]) ∧ Below X.heap.size X w')) (hc : c = 0) (ha : a = v) (hb : b = 0) (y0 : ((op : Int) != (rop : Int)) = false) (y1 : ((form : Int) != (rform : Int)) = false) (y2 : ((frm : Int) != (rfrm : Int)) = false) (y3 : ((kind : Int) != (rkind : Int)) = false) : Calls Try.prog 4 #[.int .u32 w, .agg (instV ⟨op, form, frm, kind, rd, rs1, rs2, rs3, rm, imm, csr⟩)] W fun e w' => e = .returned (.bool true) ∧ Below W.heap.size W w' := by
  subst ha hb hc
  have CF : Hid (∀ X, Calls Try.prog 25 #[.int .u32 w] X fun e w' => e = .returned (.tuple #[.agg (entV ⟨rop, rform, rfrm, rkind, rmask, rmtch, rlay⟩ nm), .bool true]) ∧ Below X.heap.size X w') := Lib.hid fun X => by
    have := rfind_c X w hw
    unfold RFindP at this
    rw [hF] at this
    exact this
  clear hF hw
  have K0 := Lib.hid (Blk.new W (instV ⟨op, form, frm, kind, rd, rs1, rs2, rs3, rm, imm, csr⟩) 27)
  have B0 := Lib.hid ((Below.refl W.heap.size W).alloc (Nat.le_refl _) (.cells (instV ⟨op, form, frm, kind, rd, rs1, rs2, rs3, rm, imm, csr⟩) 27))
  go_enter Try.func4, Try.ntmps4
  go_wp2_with (first
    | (go_at_call 24; (with_reducible refine (CW.out _).mono ?_); rintro e w1 ⟨rfl, b1⟩; clear CW; have k1 := K0.out.call b1)
    | (go_at_call 25; (with_reducible refine (CF.out _).mono ?_); rintro e w2 ⟨rfl, b2⟩; clear CF; have k2 := (k1.call b2).alloc (.cells (entV ⟨rop, rform, rfrm, rkind, rmask, rmtch, rlay⟩ nm) 42); have z2 := Blk.new w2 (entV ⟨rop, rform, rfrm, rkind, rmask, rmtch, rlay⟩ nm) 42; have y0 := z2.cell 0; have y1 := z2.cell 1; have y2 := z2.cell 2; have y3 := z2.cell 3; have y4 := z2.cell 4; have y5 := z2.cell 5; have y6 := z2.cell 6; simp only [List.getElem?_toArray, List.getElem?_cons_succ, List.getElem?_cons_zero] at y0 y1 y2 y3 y4 y5 y6; have k3 := k2.alloc (.cells (rowV ⟨rop, rform, rfrm, rkind, rmask, rmtch, rlay⟩) 40))
    | (go_at_call 23; (with_reducible refine (lives26 _).mono ?_); rintro e w7 ⟨rfl, b7⟩)
    | (refine wpList_load_blk rfl _ _ rfl _ rfl _ _ _ K0.out Try.underlying27 rfl (by kernel_rfl) ?_)
    | (go_at_call 26; (with_reducible refine (CR.out _).mono ?_); rintro e w3 ⟨rfl, b3⟩; clear CR; have k4 := k3.call b3; have q4 := (Blk.new (w2.alloc (.cells (entV ⟨rop, rform, rfrm, rkind, rmask, rmtch, rlay⟩ nm) 42)) (rowV ⟨rop, rform, rfrm, rkind, rmask, rmtch, rlay⟩) 40).call b3; have c0 := k4.cell 0; have c1 := k4.cell 1; have c2 := k4.cell 2; have c3 := k4.cell 3; have r0 := q4.cell 0; have r1 := q4.cell 1; have r2 := q4.cell 2; have r3 := q4.cell 3; simp only [List.getElem?_toArray, List.getElem?_cons_succ, List.getElem?_cons_zero, World.size_alloc] at c0 c1 c2 c3 r0 r1 r2 r3)
    | (refine wpList_load_blk rfl _ _ rfl _ rfl _ _ _ k3 Try.underlying27 rfl (by kernel_rfl) ?_))
  go_ret
  have e2 := (below_call (below_call B0.out b1) b2).alloc (below_call (below_call B0.out b1) b2).size (.cells (entV ⟨rop, rform, rfrm, rkind, rmask, rmtch, rlay⟩ nm) 42)
  have e3 := e2.alloc e2.size (.cells (rowV ⟨rop, rform, rfrm, rkind, rmask, rmtch, rlay⟩) 40)
  exact ⟨rfl, below_call (below_call e3 b3) b7⟩
theorem walk_EncodeWith (w : Nat) (x : I11) (W : World) (hw : w < 4294967296) (bx : Bx x) : Calls Try.prog 4 #[.int .u32 w, .agg (instV x)] W fun e w' => e = .returned (.bool true) ∧ Below W.heap.size W w' := by
  have hx := fin_of bx
  cases hF : FINDN w with
  | none => exact ewith_none W x w hw hF hx
  | some p =>
    obtain ⟨r, nm⟩ := p
    have hFI : FIND w = some r := by rw [← findn_map, hF]; rfl
    have hd : DEC w = some (ofRow w r) := by unfold DEC; rw [hFI]; rfl
    obtain ⟨o1, o2, o3, o4⟩ := ofRow_op w r
    have CW := fun X => with_c X x hx w hw
    have CR := fun X => renc_c X x
    have e1 : withV w x = if asksI (ofRow w r) x then (encV x, encE x) else (0, 260) := by unfold withV; rw [hd]
    rw [e1] at CW
    obtain ⟨y, hy⟩ : ∃ y, ofRow w r = y := ⟨_, rfl⟩
    rw [hy] at o1 o2 o3 o4 CW
    clear e1 hd hy hFI
    have ha : asksI y x = (r.op == x.op && (r.form == x.form && (r.frm == x.frm && r.kind == x.kind))) := by unfold asksI; rw [o1, o2, o3, o4]
    rw [ha] at CW
    obtain ⟨op, form, frm, kind, rd, rs1, rs2, rs3, rm, imm, csr⟩ := x
    obtain ⟨rop, rform, rfrm, rkind, rmask, rmtch, rlay⟩ := r
    simp only [] at CW
    clear ha o1 o2 o3 o4 bx
    have hne : ∀ a b : Nat, a = b → ((a : Int) != (b : Int)) = false := fun a b h => by rw [h]; simp
    have hnt : ∀ a b : Nat, a ≠ b → ((a : Int) != (b : Int)) = true := fun a b h => by rw [bne_iff_ne]; omega
    cases hM : MAY ⟨op, form, frm, kind, rd, rs1, rs2, rs3, rm, imm, csr⟩ with
    | false =>
      have v1 : encV ⟨op, form, frm, kind, rd, rs1, rs2, rs3, rm, imm, csr⟩ = 0 := by unfold encV; rw [hM]; rfl
      have v2 : encE ⟨op, form, frm, kind, rd, rs1, rs2, rs3, rm, imm, csr⟩ = 260 := by unfold encE; rw [hM]; rfl
      rw [v1, v2] at CR CW
      exact ewith_e W op form frm kind rd rs1 rs2 rs3 rm imm csr w hw rop rform rfrm rkind rmask rmtch rlay nm hF 0 0 260 260 (Lib.hid fun X => by have := CW X; revert this; split <;> exact id) (Lib.hid CR) (by decide) rfl rfl
    | true =>
      have v2 : encE ⟨op, form, frm, kind, rd, rs1, rs2, rs3, rm, imm, csr⟩ = 0 := by unfold encE; rw [hM]; rfl
      rw [v2] at CR CW
      obtain ⟨v, hv⟩ : ∃ v, encV ⟨op, form, frm, kind, rd, rs1, rs2, rs3, rm, imm, csr⟩ = v := ⟨_, rfl⟩
      rw [hv] at CR CW
      clear v2 hv hM
      by_cases q0 : op = rop
      rotate_left
      · rw [if_neg (by simp; omega)] at CW
        exact ewith_0 W op form frm kind rd rs1 rs2 rs3 rm imm csr w hw rop rform rfrm rkind rmask rmtch rlay nm hF v 0 0 260 (Lib.hid CW) (Lib.hid CR) rfl rfl rfl  (hnt _ _ q0)
      by_cases q1 : form = rform
      rotate_left
      · rw [if_neg (by simp; omega)] at CW
        exact ewith_1 W op form frm kind rd rs1 rs2 rs3 rm imm csr w hw rop rform rfrm rkind rmask rmtch rlay nm hF v 0 0 260 (Lib.hid CW) (Lib.hid CR) rfl rfl rfl (hne _ _ q0) (hnt _ _ q1)
      by_cases q2 : frm = rfrm
      rotate_left
      · rw [if_neg (by simp; omega)] at CW
        exact ewith_2 W op form frm kind rd rs1 rs2 rs3 rm imm csr w hw rop rform rfrm rkind rmask rmtch rlay nm hF v 0 0 260 (Lib.hid CW) (Lib.hid CR) rfl rfl rfl (hne _ _ q0) (hne _ _ q1) (hnt _ _ q2)
      by_cases q3 : kind = rkind
      rotate_left
      · rw [if_neg (by simp; omega)] at CW
        exact ewith_3 W op form frm kind rd rs1 rs2 rs3 rm imm csr w hw rop rform rfrm rkind rmask rmtch rlay nm hF v 0 0 260 (Lib.hid CW) (Lib.hid CR) rfl rfl rfl (hne _ _ q0) (hne _ _ q1) (hne _ _ q2) (hnt _ _ q3)
      rw [if_pos (by simp; omega)] at CW
      exact ewith_ok W op form frm kind rd rs1 rs2 rs3 rm imm csr w hw rop rform rfrm rkind rmask rmtch rlay nm hF v v 0 0 (Lib.hid CW) (Lib.hid CR) rfl rfl rfl (hne _ _ q0) (hne _ _ q1) (hne _ _ q2) (hne _ _ q3)
end Go.Proofs.Yteelconabmfnkaa
