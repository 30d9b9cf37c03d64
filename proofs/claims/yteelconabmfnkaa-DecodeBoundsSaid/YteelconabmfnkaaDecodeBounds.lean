/- The law DecodeBounds: its walk. -/
import Derived.Test.YteelconabmfnkaaLb
namespace Go.Proofs.Yteelconabmfnkaa
open Go Go.RowKit
set_option maxHeartbeats 4000000
set_option maxRecDepth 100000
set_option linter.unusedVariables false
set_option linter.unusedSimpArgs false
theorem bounds_none (w : World) (n : Nat) (hn : n < 4294967296) (hd : DEC n = none) : Calls Try.prog 13 #[.int .u32 n] w fun e w' => e = .returned (.bool true) ∧ Below w.heap.size w w' := by
  have C1 : Hid (∀ X, Calls Try.prog 22 #[.int .u32 n] X fun e w' => e = .returned (.tuple #[.agg (instV zeroI), .int .i64 250]) ∧ Below X.heap.size X w') := Lib.hid fun X => by
    have := decode_c X n hn; unfold DecP at this; rw [hd] at this; exact this
  have C2 : Hid (∀ X, Calls Try.prog 41 #[.int .u32 n] X fun e w' => e = .returned (.tuple #[.agg (useV zeroU), .int .i64 250]) ∧ Below X.heap.size X w') := Lib.hid fun X => by
    have := uses_c X n hn; unfold UsesP at this; rw [hd] at this; exact this
  have C3 := Lib.hid lives25
  clear hd
  go_enter Try.func13, Try.ntmps13
  go_wp2_with (first
    | (go_at_call 22; (with_reducible refine (C1.out _).mono ?_); rintro e w1 ⟨rfl, b1⟩; clear C1)
    | (go_at_call 41; (with_reducible refine (C2.out _).mono ?_); rintro e w2 ⟨rfl, b2⟩; clear C2)
    | (go_at_call 40; (with_reducible refine (C3.out _).mono ?_); rintro e w3 ⟨rfl, b3⟩; clear C3))
  go_ret
  have c2 := below_acall b1 b1.size b2
  exact ⟨rfl, below_acall c2 c2.size b3⟩
theorem bounds_some (w : World) (n : Nat) (hn : n < 4294967296) (x : I11) (hd : DEC n = some x) : Calls Try.prog 13 #[.int .u32 n] w fun e w' => e = .returned (.bool true) ∧ Below w.heap.size w w' := by
  have C1 : Hid (∀ X, Calls Try.prog 22 #[.int .u32 n] X fun e w' => e = .returned (.tuple #[.agg (instV x), .int .i64 0]) ∧ Below X.heap.size X w') := Lib.hid fun X => by
    have := decode_c X n hn; unfold DecP at this; rw [hd] at this; exact this
  have C2 : Hid (∀ X, Calls Try.prog 41 #[.int .u32 n] X fun e w' => e = .returned (.tuple #[.agg (useV (USE x)), .int .i64 0]) ∧ Below X.heap.size X w') := Lib.hid fun X => by
    have := uses_c X n hn; unfold UsesP at this; rw [hd] at this; exact this
  have C3 := Lib.hid lives25
  obtain ⟨r, hr, _, _, M, o1, o2, o3, o4, _⟩ := dec_fine hn hd
  have F := row_fine r hr
  obtain ⟨ux, uf, vx, vf, hu⟩ : ∃ a b c d, USE x = ⟨a, b, c, d⟩ := ⟨_, _, _, _, rfl⟩
  have L4 := use_lt M.rd M.rs1 M.rs2 M.rs3
  have P4 := use_pop M.rd
  rw [hu] at L4 P4 C2
  obtain ⟨l1, l2, l3, l4⟩ := L4
  obtain ⟨p1, p2, p3, p4⟩ := P4
  simp only [] at l1 l2 l3 l4 p1 p2 p3 p4
  have B1 := Lib.hid (fun X => ones_c X ux l1)
  have B2 := Lib.hid (fun X => ones_c X uf l2)
  have B3 := Lib.hid (fun X => ones_c X vx l3)
  have B4 := Lib.hid (fun X => ones_c X vf l4)
  have g1 := M.rd
  have g2 := M.rs1
  have g3 := M.rs2
  have g4 := M.rs3
  have g5 := M.rm
  have g6 := M.rm5
  have g7 := M.rm6
  have g8 := M.imm1
  have g9 := M.imm2
  have g10 := M.csr
  have g11 : x.form < 4 := by rw [o2]; exact F.form
  have g12 : x.frm < 4 := by rw [o3]; exact F.frm
  have g13 : x.kind < 4 := by rw [o4]; exact F.kind
  clear hd hu M F o1 o2 o3 o4 hr
  obtain ⟨op, form, frm, kind, rd, rs1, rs2, rs3, rm, imm, csr⟩ := x
  simp only [] at g1 g2 g3 g4 g5 g6 g7 g8 g9 g10 g11 g12 g13 p4
  generalize pop ux = nx at *
  generalize pop uf = nf at *
  generalize pop vx = mx at *
  generalize pop vf = mf at *
  have z1 : decide ((31 : Int) < (rd : Int)) = false := decide_eq_false (by omega)
  have z2 : decide ((31 : Int) < (rs1 : Int)) = false := decide_eq_false (by omega)
  have z3 : decide ((31 : Int) < (rs2 : Int)) = false := decide_eq_false (by omega)
  have z4 : decide ((31 : Int) < (rs3 : Int)) = false := decide_eq_false (by omega)
  have z5 : decide ((7 : Int) < (rm : Int)) = false := decide_eq_false (by omega)
  have z6 : ((rm : Int) == 5) = false := by rw [beq_eq_false_iff_ne]; omega
  have z7 : ((rm : Int) == 6) = false := by rw [beq_eq_false_iff_ne]; omega
  have z8 : decide (imm < -2048) = false := decide_eq_false (by omega)
  have z9 : decide (2047 < imm) = false := decide_eq_false (by omega)
  have z10 : decide ((3 : Int) < (csr : Int)) = false := decide_eq_false (by omega)
  have z11 : decide ((3 : Int) < (form : Int)) = false := decide_eq_false (by omega)
  have z12 : decide ((3 : Int) < (frm : Int)) = false := decide_eq_false (by omega)
  have z13 : decide ((3 : Int) < (kind : Int)) = false := decide_eq_false (by omega)
  go_enter Try.func13, Try.ntmps13
  go_wp2_with (first
    | (go_at_call 22; (with_reducible refine (C1.out _).mono ?_); rintro e w1 ⟨rfl, b1⟩; clear C1)
    | (go_at_call 41; (with_reducible refine (C2.out _).mono ?_); rintro e w2 ⟨rfl, b2⟩; clear C2; have q1 := (Blk.nlater b2).alloc (.cells (useV ⟨ux, uf, vx, vf⟩) 68); have v4 := q1.cell 4; have v5 := q1.cell 5; have v6 := q1.cell 6; have v7 := q1.cell 7; have v8 := q1.cell 8; have v9 := q1.cell 9; have v10 := q1.cell 10; have v1 := q1.cell 1; have v2 := q1.cell 2; have v3 := q1.cell 3; simp only [List.getElem?_toArray, List.getElem?_cons_succ, List.getElem?_cons_zero] at v1 v2 v3 v4 v5 v6 v7 v8 v9 v10))
  have c2 := (below_acall b1 b1.size b2)
  have kI := (Blk.nlater b2).alloc (.cells (useV ⟨ux, uf, vx, vf⟩) 68)
  have kU := Blk.new w2 (useV ⟨ux, uf, vx, vf⟩) 68
  have kB := c2.alloc c2.size (.cells (useV ⟨ux, uf, vx, vf⟩) 68)
  obtain ⟨Wn, hWn⟩ : ∃ Wn, w2.alloc (.cells (useV ⟨ux, uf, vx, vf⟩) 68) = Wn := ⟨_, rfl⟩
  show Code.wp _ _ _ _ (w2.alloc (.cells (useV ⟨ux, uf, vx, vf⟩) 68))
  rw [hWn] at kI kU kB ⊢
  clear hWn c2 b1 b2 q1 v1 v2 v3 v4 v5 v6 v7 v8 v9 v10 z1 z2 z3 z4 z5 z6 z7 z8 z9 z10 z11 z12 z13
  have y1 : decide ((3 : Int) < (nf : Int)) = false := decide_eq_false (by omega)
  have y2 : decide ((1 : Int) < (nx : Int)) = false := decide_eq_false (by omega)
  obtain ⟨s, hs⟩ : ∃ s, mx + mf = s := ⟨_, rfl⟩
  rw [hs] at p3 p4
  have e1 : (mx : Int) + (mf : Int) = (s : Int) := by omega
  have e2 : IntKind.i64.wrap ((mx : Int) + (mf : Int)) = (s : Int) := by rw [e1]; simp only [IntKind.wrap, IntKind.signed, IntKind.bits]; simp; omega
  have y3 : decide ((1 : Int) < (s : Int)) = false := decide_eq_false (by omega)
  refine wp_region_sets_lit (fun S X => Blk X w1.heap.size (instV ⟨op, form, frm, kind, rd, rs1, rs2, rs3, rm, imm, csr⟩) 27 ∧ Blk X w2.heap.size (useV ⟨ux, uf, vx, vf⟩) 68 ∧ Below w.heap.size w X) (by kernel_rfl) (by kernel_rfl) ⟨kI, kU, kB.drew⟩ ?_
  obtain ⟨U, V, hV, hU⟩ := worlds (fun S X => Blk X w1.heap.size (instV ⟨op, form, frm, kind, rd, rs1, rs2, rs3, rm, imm, csr⟩) 27 ∧ Blk X w2.heap.size (useV ⟨ux, uf, vx, vf⟩) 68 ∧ Below w.heap.size w X)
  have k0 : ∀ u, (V u).cell? ⟨w2.heap.size, 0, none⟩ = some (.int .u32 (ux : Nat)) := fun u => by obtain ⟨S, h0, h1, _⟩ := hV u; exact h1.cell 0
  have k1 : ∀ u, (V u).cell? ⟨w2.heap.size, 1, none⟩ = some (.int .u32 (uf : Nat)) := fun u => by obtain ⟨S, h0, h1, _⟩ := hV u; exact h1.cell 1
  have k2 : ∀ u, (V u).cell? ⟨w2.heap.size, 2, none⟩ = some (.int .u32 (vx : Nat)) := fun u => by obtain ⟨S, h0, h1, _⟩ := hV u; exact h1.cell 2
  have k3 : ∀ u, (V u).cell? ⟨w2.heap.size, 3, none⟩ = some (.int .u32 (vf : Nat)) := fun u => by obtain ⟨S, h0, h1, _⟩ := hV u; exact h1.cell 3
  replace hV := Lib.hid hV
  replace hU := Lib.hid hU
  (repeat (first | (refine sets_quiet (fun w' => ∃ u, w' = V u) hU.out rfl (fun _ _ _ h => h) rfl ?_; intro K hK; go_big_quiet_op; first | go_big_quiet_on | (refine ⟨_, fun _ => rfl, ?_⟩; go_big_quiet_on)) | (refine sets_skip rfl (fun _ _ _ h => h) ?_; simp only [Act.put, List.setIfInBounds_toArray, List.set_cons_succ, List.set_cons_zero])))
  refine sets_call (.int .i64 (nf : Nat)) rfl 42 [_] _ rfl Try.f42 Try.func42 (by kernel_rfl) (by kernel_rfl) [_] rfl (fun S X h1 h2 h3 => ?_) ?_
  · refine (B2.out X).mono ?_
    rintro e X2 ⟨rfl, rfl⟩
    exact ⟨rfl, h3⟩
  simp only [Act.put, List.setIfInBounds_toArray, List.set_cons_succ, List.set_cons_zero]
  (repeat (first | (refine sets_quiet (fun w' => ∃ u, w' = V u) hU.out rfl (fun _ _ _ h => h) rfl ?_; intro K hK; go_big_quiet_op; first | go_big_quiet_on | (refine ⟨_, fun _ => rfl, ?_⟩; go_big_quiet_on)) | (refine sets_skip rfl (fun _ _ _ h => h) ?_; simp only [Act.put, List.setIfInBounds_toArray, List.set_cons_succ, List.set_cons_zero])))
  refine sets_call (.int .i64 (nx : Nat)) rfl 42 [_] _ rfl Try.f42 Try.func42 (by kernel_rfl) (by kernel_rfl) [_] rfl (fun S X h1 h2 h3 => ?_) ?_
  · refine (B1.out X).mono ?_
    rintro e X2 ⟨rfl, rfl⟩
    exact ⟨rfl, h3⟩
  simp only [Act.put, List.setIfInBounds_toArray, List.set_cons_succ, List.set_cons_zero]
  (repeat (first | (refine sets_quiet (fun w' => ∃ u, w' = V u) hU.out rfl (fun _ _ _ h => h) rfl ?_; intro K hK; go_big_quiet_op; first | go_big_quiet_on | (refine ⟨_, fun _ => rfl, ?_⟩; go_big_quiet_on)) | (refine sets_skip rfl (fun _ _ _ h => h) ?_; simp only [Act.put, List.setIfInBounds_toArray, List.set_cons_succ, List.set_cons_zero])))
  refine sets_call (.int .i64 (mx : Nat)) rfl 42 [_] _ rfl Try.f42 Try.func42 (by kernel_rfl) (by kernel_rfl) [_] rfl (fun S X h1 h2 h3 => ?_) ?_
  · refine (B3.out X).mono ?_
    rintro e X2 ⟨rfl, rfl⟩
    exact ⟨rfl, h3⟩
  simp only [Act.put, List.setIfInBounds_toArray, List.set_cons_succ, List.set_cons_zero]
  (repeat (first | (refine sets_quiet (fun w' => ∃ u, w' = V u) hU.out rfl (fun _ _ _ h => h) rfl ?_; intro K hK; go_big_quiet_op; first | go_big_quiet_on | (refine ⟨_, fun _ => rfl, ?_⟩; go_big_quiet_on)) | (refine sets_skip rfl (fun _ _ _ h => h) ?_; simp only [Act.put, List.setIfInBounds_toArray, List.set_cons_succ, List.set_cons_zero])))
  refine sets_call (.int .i64 (mf : Nat)) rfl 42 [_] _ rfl Try.f42 Try.func42 (by kernel_rfl) (by kernel_rfl) [_] rfl (fun S X h1 h2 h3 => ?_) ?_
  · refine (B4.out X).mono ?_
    rintro e X2 ⟨rfl, rfl⟩
    exact ⟨rfl, h3⟩
  simp only [Act.put, List.setIfInBounds_toArray, List.set_cons_succ, List.set_cons_zero]
  (repeat (first | (refine sets_quiet (fun w' => ∃ u, w' = V u) hU.out rfl (fun _ _ _ h => h) rfl ?_; intro K hK; go_big_quiet_op; first | go_big_quiet_on | (refine ⟨_, fun _ => rfl, ?_⟩; go_big_quiet_on)) | (refine sets_skip rfl (fun _ _ _ h => h) ?_; simp only [Act.put, List.setIfInBounds_toArray, List.set_cons_succ, List.set_cons_zero])))
  rintro S X hS ⟨i1, i2, i3⟩
  replace i1 := Lib.hid i1
  replace i2 := Lib.hid i2
  replace i3 := Lib.hid i3
  clear kI kU kB hU hV k0 k1 k2 k3
  go_wp2
  obtain ⟨b, hb⟩ : ∃ b, ((op : Int) == 2) = b := ⟨_, rfl⟩
  have hb2 : ((s : Int) == 0) = b := by
    rw [← hb, Bool.eq_iff_iff]
    simp only [beq_iff_eq]
    omega
  cases b
  all_goals
    refine wp_region_sets_lit (fun S X => Blk X w1.heap.size (instV ⟨op, form, frm, kind, rd, rs1, rs2, rs3, rm, imm, csr⟩) 27 ∧ Blk X w2.heap.size (useV ⟨ux, uf, vx, vf⟩) 68 ∧ Below w.heap.size w X) (by kernel_rfl) (by kernel_rfl) ⟨i1.out, i2.out, i3.out.drew⟩ ?_
    obtain ⟨U, V, hV, hU⟩ := worlds (fun S X => Blk X w1.heap.size (instV ⟨op, form, frm, kind, rd, rs1, rs2, rs3, rm, imm, csr⟩) 27 ∧ Blk X w2.heap.size (useV ⟨ux, uf, vx, vf⟩) 68 ∧ Below w.heap.size w X)
    have k2 : ∀ u, (V u).cell? ⟨w2.heap.size, 2, none⟩ = some (.int .u32 (vx : Nat)) := fun u => by obtain ⟨S, h0, h1, _⟩ := hV u; exact h1.cell 2
    have k3 : ∀ u, (V u).cell? ⟨w2.heap.size, 3, none⟩ = some (.int .u32 (vf : Nat)) := fun u => by obtain ⟨S, h0, h1, _⟩ := hV u; exact h1.cell 3
    have k4 : ∀ u, (V u).cell? ⟨w1.heap.size, 0, none⟩ = some (.int .u8 (op : Nat)) := fun u => by obtain ⟨S, h0, h1, _⟩ := hV u; exact h0.cell 0
    replace hV := Lib.hid hV
    replace hU := Lib.hid hU
    (repeat (first | (refine sets_quiet (fun w' => ∃ u, w' = V u) hU.out rfl (fun _ _ _ h => h) rfl ?_; intro K hK; go_big_quiet_op; first | go_big_quiet_on | (refine ⟨_, fun _ => rfl, ?_⟩; go_big_quiet_on)) | (refine sets_skip rfl (fun _ _ _ h => h) ?_; simp only [Act.put, List.setIfInBounds_toArray, List.set_cons_succ, List.set_cons_zero])))
    refine sets_call (.int .i64 (mx : Nat)) rfl 42 [_] _ rfl Try.f42 Try.func42 (by kernel_rfl) (by kernel_rfl) [_] rfl (fun S X h1 h2 h3 => ?_) ?_
    · refine (B3.out X).mono ?_
      rintro e X2 ⟨rfl, rfl⟩
      exact ⟨rfl, h3⟩
    simp only [Act.put, List.setIfInBounds_toArray, List.set_cons_succ, List.set_cons_zero]
    (repeat (first | (refine sets_quiet (fun w' => ∃ u, w' = V u) hU.out rfl (fun _ _ _ h => h) rfl ?_; intro K hK; go_big_quiet_op; first | go_big_quiet_on | (refine ⟨_, fun _ => rfl, ?_⟩; go_big_quiet_on)) | (refine sets_skip rfl (fun _ _ _ h => h) ?_; simp only [Act.put, List.setIfInBounds_toArray, List.set_cons_succ, List.set_cons_zero])))
    refine sets_call (.int .i64 (mf : Nat)) rfl 42 [_] _ rfl Try.f42 Try.func42 (by kernel_rfl) (by kernel_rfl) [_] rfl (fun S X h1 h2 h3 => ?_) ?_
    · refine (B4.out X).mono ?_
      rintro e X2 ⟨rfl, rfl⟩
      exact ⟨rfl, h3⟩
    simp only [Act.put, List.setIfInBounds_toArray, List.set_cons_succ, List.set_cons_zero]
    (repeat (first | (refine sets_quiet (fun w' => ∃ u, w' = V u) hU.out rfl (fun _ _ _ h => h) rfl ?_; intro K hK; go_big_quiet_op; first | go_big_quiet_on | (refine ⟨_, fun _ => rfl, ?_⟩; go_big_quiet_on)) | (refine sets_skip rfl (fun _ _ _ h => h) ?_; simp only [Act.put, List.setIfInBounds_toArray, List.set_cons_succ, List.set_cons_zero])))
    refine sets_call (.bool true) rfl 40 [] _ rfl Try.f40 Try.func40 (by kernel_rfl) (by kernel_rfl) [] rfl (fun S X h1 h2 h3 => ?_) ?_
    · refine (C3.out X).mono ?_
      rintro e X2 ⟨rfl, hbl⟩
      exact ⟨rfl, h3.1.call hbl, h3.2.1.call hbl, h3.2.2.trans (hbl.mono h3.2.2.size)⟩
    simp only [Act.put, List.setIfInBounds_toArray, List.set_cons_succ, List.set_cons_zero]
    (repeat (first | (refine sets_quiet (fun w' => ∃ u, w' = V u) hU.out rfl (fun _ _ _ h => h) rfl ?_; intro K hK; go_big_quiet_op; first | go_big_quiet_on | (refine ⟨_, fun _ => rfl, ?_⟩; go_big_quiet_on)) | (refine sets_skip rfl (fun _ _ _ h => h) ?_; simp only [Act.put, List.setIfInBounds_toArray, List.set_cons_succ, List.set_cons_zero])))
    rintro S X hS ⟨i1, i2, i3⟩
    go_wp2
    go_ret
    exact ⟨rfl, i3⟩
theorem walk_DecodeBounds (n : Nat) (hn : n < 4294967296) (w : World) : Calls Try.prog 13 #[.int .u32 n] w fun e w' => e = .returned (.bool true) ∧ Below w.heap.size w w' := by
  cases hd : DEC n with
  | none => exact bounds_none w n hn hd
  | some x => exact bounds_some w n hn x hd
end Go.Proofs.Yteelconabmfnkaa
