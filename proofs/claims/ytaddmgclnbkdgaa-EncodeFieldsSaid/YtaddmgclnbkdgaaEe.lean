/- The functions of encode.lays. -/
import Derived.Test.YtaddmgclnbkdgaaEd
import Derived.Test.YtaddmgclnbkdgaaLa
import Derived.Laws.EntriesVeiled
import Derived.Deep.Cut
namespace Go.Proofs.Ytaddmgclnbkdgaa
open Go Go.RowKit
set_option maxHeartbeats 4000000
set_option maxRecDepth 100000
set_option linter.unusedVariables false
set_option linter.unusedSimpArgs false
theorem modeB_lt {m : Nat} (h : modeB m = true) : m < 8 := by
  unfold modeB at h
  simp at h
  omega
theorem cell_later' {W Y : World} {a : Addr} {v : Value} (hb : Below W.heap.size W Y) (h : W.cell? a = some v) : Y.cell? a = some v := (hb.cell (World.block_lt_of_cell? W _ h)).trans h
abbrev may1 (x : I11) : Bool := decide (x.rd < 32) && decide (x.rs1 < 32)
abbrev V1 (x : I11) : Nat := 128 * x.rd + 32768 * x.rs1
abbrev own2 (x : I11) : I11 := ⟨0, 0, 0, 0, x.rd, x.rs1, 0, 0, x.rm, 0, 0⟩
abbrev may2 (x : I11) : Bool := may1 x && modeB x.rm
abbrev V2 (x : I11) : Nat := V1 x + 4096 * x.rm
theorem lay2_c (W : World) (c : Nat) (x : I11) (h1 : x.rd < 256) (h2 : x.rs1 < 256) (h3 : x.rs2 < 256) (h4 : x.rs3 < 256) (h5 : x.rm < 256) (h6 : x.csr < 256) (h7 : -32768 ≤ x.imm ∧ x.imm ≤ 32767) (hc : W.cell? ⟨c, 0, none⟩ = some (.func (.func 89) #[] #[])) : Calls Try.prog 90 #[.agg (instV x), .pointer (some ⟨c, 0, none⟩)] W (LayP W (own2 x) (may2 x) (V2 x)) := by
  have C1 : Hid (∀ Y, Below W.heap.size W Y → Calls Try.prog 89 #[.agg (instV x)] Y (LayP Y (ownRd x) (may1 x) (V1 x))) := Lib.hid fun Y hb => lay1_c Y x h1 h2
  have HV : Hid (may1 x = true → V1 x / 4096 % 8 = 0 ∧ V1 x < 4294967296) := Lib.hid (fun h => by
    simp only [may1, Bool.and_eq_true, decide_eq_true_eq] at h
    simp only [V1]
    omega)
  obtain ⟨op, form, frm, kind, rd, rs1, rs2, rs3, rm, imm, csr⟩ := x
  simp only [] at h1 h2 h3 h4 h5 h6 h7
  obtain ⟨m0, hm0⟩ : ∃ m0, may1 ⟨op, form, frm, kind, rd, rs1, rs2, rs3, rm, imm, csr⟩ = m0 := ⟨_, rfl⟩
  obtain ⟨v0, hv0⟩ : ∃ v0, V1 ⟨op, form, frm, kind, rd, rs1, rs2, rs3, rm, imm, csr⟩ = v0 := ⟨_, rfl⟩
  have HMAY : Hid (may2 ⟨op, form, frm, kind, rd, rs1, rs2, rs3, rm, imm, csr⟩ = (m0 && modeB rm)) := Lib.hid (by rw [← hm0])
  have HVV : Hid (V2 ⟨op, form, frm, kind, rd, rs1, rs2, rs3, rm, imm, csr⟩ = v0 + 4096 * rm) := Lib.hid (by rw [← hv0])
  rw [hm0, hv0] at C1 HV
  clear hm0 hv0
  have kI := (Blk.new W (instV ⟨op, form, frm, kind, rd, rs1, rs2, rs3, rm, imm, csr⟩) 27).alloc (.cells (instV zeroI) 27)
  have kO := Blk.new (W.alloc (.cells (instV ⟨op, form, frm, kind, rd, rs1, rs2, rs3, rm, imm, csr⟩) 27)) (instV zeroI) 27
  have kB := ((Below.refl W.heap.size W).alloc (Nat.le_refl _) (.cells (instV ⟨op, form, frm, kind, rd, rs1, rs2, rs3, rm, imm, csr⟩) 27)).alloc (by simp) (.cells (instV zeroI) 27)
  rw [World.size_alloc] at kO
  obtain ⟨A, hA⟩ : ∃ A, ((W.alloc (.cells (instV ⟨op, form, frm, kind, rd, rs1, rs2, rs3, rm, imm, csr⟩) 27)).alloc (.cells (instV zeroI) 27)) = A := ⟨_, rfl⟩
  rw [hA] at kI kO kB
  have hcA := cell_later' kB hc
  have CA := Lib.hid (C1.out A kB)
  have HA := Lib.hid hA
  have KI := Lib.hid kI
  have KO := Lib.hid kO
  have KB := Lib.hid kB
  clear hA kI kO kB hc C1
  go_enter Try.func90, Try.ntmps90
  go_upto_region 1 with fail
  show Code.wp _ _ _ _ ((W.alloc (.cells (instV ⟨op, form, frm, kind, rd, rs1, rs2, rs3, rm, imm, csr⟩) 27)).alloc (.cells (instV zeroI) 27))
  rw [HA.out]
  go_upto_region 3 with (first
    | (refine wpList_load_blk rfl _ _ rfl _ rfl _ _ _ KI.out Try.underlying27 rfl (by kernel_rfl) ?_)
    | (go_at_call 89; (with_reducible refine CA.out.mono ?_); rintro e w1 ⟨z0, rfl, hz0, hz32, hb1⟩; clear CA; have cf : w1.cell? ⟨W.heap.size, 8, none⟩ = some (.int .u8 (rm : Nat)) := (KI.out.call hb1).cell 8; have cf2 : ∀ o, (w1.alloc o).cell? ⟨W.heap.size, 8, none⟩ = some (.int .u8 (rm : Nat)) := fun o => ((KI.out.call hb1).alloc o).cell 8))
  have kI := (KI.out.call hb1).alloc (.cells (instV ⟨0, 0, 0, 0, rd, rs1, 0, 0, rm, 0, 0⟩) 27)
  have kO := (KO.out.call hb1).alloc (.cells (instV ⟨0, 0, 0, 0, rd, rs1, 0, 0, rm, 0, 0⟩) 27)
  have kW := Blk.new w1 (instV ⟨0, 0, 0, 0, rd, rs1, 0, 0, rm, 0, 0⟩) 27
  have hs1 : W.heap.size + 1 < w1.heap.size := (KO.out.call hb1).lt
  have kB := (KB.out.trans (hb1.mono KB.out.size)).alloc (by omega) (.cells (instV ⟨0, 0, 0, 0, rd, rs1, 0, 0, rm, 0, 0⟩) 27)
  show Code.wp _ _ _ _ (w1.alloc (.cells (instV ⟨0, 0, 0, 0, rd, rs1, 0, 0, rm, 0, 0⟩) 27))
  obtain ⟨A2, hA2⟩ : ∃ A2, w1.alloc (.cells (instV ⟨0, 0, 0, 0, rd, rs1, 0, 0, rm, 0, 0⟩) 27) = A2 := ⟨_, rfl⟩
  rw [hA2] at kI kO kW kB ⊢
  clear hA2 cf cf2 hb1 HA KI KO KB hcA
  obtain ⟨z, hz⟩ : ∃ z, z0 ||| rm * 4096 % 4294967296 = z := ⟨_, rfl⟩
  have hz2 : z < 4294967296 := by rw [← hz]; exact or_lt32 hz32 (Nat.mod_lt _ (by decide))
  have e1 : bits .or .u32 (z0 : Int) ((rm : Int) * 4096) = ((z : Nat) : Int) := by
    have h1 : (rm : Int) * 4096 = ((rm * 4096 % 4294967296 : Nat) : Int) := by omega
    rw [h1, or32 _ _ hz32 (Nat.mod_lt _ (by decide)), hz]
  have HZ : Hid (m0 = true → rm < 8 → z = v0 + 4096 * rm) := Lib.hid (fun hm hl => by
    have a := HV.out hm
    rw [← hz, Nat.mod_eq_of_lt (by omega), hz0 hm, or_sum 12 3 a.1 hl]
    omega)
  have HZ2 := Lib.hid hz2
  clear hz hz2 hz0 HV
  have KI := Lib.hid kI
  have KO := Lib.hid kO
  have KW := Lib.hid kW
  have KB := Lib.hid kB
  clear kI kO kW kB
  rcases (by cases m0 <;> simp <;> cases modeB rm <;> simp : (m0 = false) ∨ (m0 = true ∧ modeB rm = false) ∨ (m0 = true ∧ modeB rm = true)) with hcase | hcase | hcase
  · skip
    have hm : m0 = false := hcase
    have HC : Hid (may2 ⟨op, form, frm, kind, rd, rs1, rs2, rs3, rm, imm, csr⟩ = false) := Lib.hid (by rw [HMAY.out, hm]; rfl)
    clear hcase
    subst hm
    refine wp_region_sets_lit (fun S X => Blk X W.heap.size (instV ⟨op, form, frm, kind, rd, rs1, rs2, rs3, rm, imm, csr⟩) 27 ∧ Blk X w1.heap.size (instV ⟨0, 0, 0, 0, rd, rs1, 0, 0, rm, 0, 0⟩) 27 ∧ Blk X (W.heap.size + 1) (bif S 13 then instV ⟨0, 0, 0, 0, rd, rs1, 0, 0, rm, 0, 0⟩ else instV zeroI) 27 ∧ Below W.heap.size W X) (by kernel_rfl) (by kernel_rfl) ⟨KI.out, KW.out, KO.out, KB.out.drew⟩ ?_
    obtain ⟨U, V, hV, hU⟩ := worlds (fun S X => Blk X W.heap.size (instV ⟨op, form, frm, kind, rd, rs1, rs2, rs3, rm, imm, csr⟩) 27 ∧ Blk X w1.heap.size (instV ⟨0, 0, 0, 0, rd, rs1, 0, 0, rm, 0, 0⟩) 27 ∧ Blk X (W.heap.size + 1) (bif S 13 then instV ⟨0, 0, 0, 0, rd, rs1, 0, 0, rm, 0, 0⟩ else instV zeroI) 27 ∧ Below W.heap.size W X)
    have kf : ∀ u, (V u).cell? ⟨W.heap.size, 8, none⟩ = some (.int .u8 (rm : Nat)) := fun u => by obtain ⟨S, h, _⟩ := hV u; exact h.cell 8
    replace hV := Lib.hid hV
    replace hU := Lib.hid hU
    refine sets_load_blk rfl (fun _ _ _ h => h) _ _ rfl w1.heap.size rfl _ (instV ⟨0, 0, 0, 0, rd, rs1, 0, 0, rm, 0, 0⟩) _ (fun S X _ h => h.2.1) Try.underlying27 rfl (by kernel_rfl) ?_
    simp only [Act.put, List.setIfInBounds_toArray, List.set_cons_succ, List.set_cons_zero]
    (repeat (first | (refine sets_quiet (fun w' => ∃ u, w' = V u) hU.out rfl (fun _ _ _ h => h) rfl ?_; intro K hK; go_big_quiet_op; first | go_big_quiet_on | (refine ⟨_, fun _ => rfl, ?_⟩; go_big_quiet_on)) | (refine sets_skip rfl (fun _ _ _ h => h) ?_; simp only [Act.put, List.setIfInBounds_toArray, List.set_cons_succ, List.set_cons_zero])))
    refine sets_store_blk rfl _ _ _ rfl rfl (W.heap.size + 1) (instV ⟨0, 0, 0, 0, rd, rs1, 0, 0, rm, 0, 0⟩) rfl rfl 27 (by kernel_rfl) (by simp [Value.oneCell']) ?_ ?_
    · rintro S X a1 _ _ ⟨i1, i2, i3, i4⟩
      refine ⟨⟨_, i3, by cases S 13 <;> rfl⟩, i1.rowOther _ (by omega), i2.rowOther _ (by omega), i3.row _, below_setRow i4 (by omega) _⟩
    (repeat (first | (refine sets_quiet (fun w' => ∃ u, w' = V u) hU.out rfl (fun _ _ _ h => h) rfl ?_; intro K hK; go_big_quiet_op; first | go_big_quiet_on | (refine ⟨_, fun _ => rfl, ?_⟩; go_big_quiet_on)) | (refine sets_skip rfl (fun _ _ _ h => h) ?_; simp only [Act.put, List.setIfInBounds_toArray, List.set_cons_succ, List.set_cons_zero])))
    rintro S X hS ⟨i1, i2, i3, i4⟩
    rw [show S 13 = true from hS 13 (by decide), cond_true] at i3
    clear hU hV kf
    go_wp2
    exact bodyPost_ret (results_c2 rfl _ _ (W.heap.size + 1) _ _ _ rfl i3 Try.underlying27 rfl (by kernel_rfl)) rfl ⟨z, by rw [HC.out]; rfl, fun h => (by rw [HC.out] at h; cases h), HZ2.out, i4⟩
  · skip
    have hm : m0 = true := hcase.1
    have HC : Hid (may2 ⟨op, form, frm, kind, rd, rs1, rs2, rs3, rm, imm, csr⟩ = false) := Lib.hid (by rw [HMAY.out, hm, hcase.2]; rfl)
    have CM : Hid (∀ Y, Calls Try.prog 91 #[.int .u8 rm] Y fun e w' => e = .returned (.bool false) ∧ w' = Y) := Lib.hid fun Y => by have := mode_c Y rm; rw [hcase.2] at this; exact this
    clear hcase
    subst hm
    refine wp_region_sets_lit (fun S X => Blk X W.heap.size (instV ⟨op, form, frm, kind, rd, rs1, rs2, rs3, rm, imm, csr⟩) 27 ∧ Blk X w1.heap.size (instV ⟨0, 0, 0, 0, rd, rs1, 0, 0, rm, 0, 0⟩) 27 ∧ Blk X (W.heap.size + 1) (bif S 13 then instV ⟨0, 0, 0, 0, rd, rs1, 0, 0, rm, 0, 0⟩ else instV zeroI) 27 ∧ Below W.heap.size W X) (by kernel_rfl) (by kernel_rfl) ⟨KI.out, KW.out, KO.out, KB.out.drew⟩ ?_
    obtain ⟨U, V, hV, hU⟩ := worlds (fun S X => Blk X W.heap.size (instV ⟨op, form, frm, kind, rd, rs1, rs2, rs3, rm, imm, csr⟩) 27 ∧ Blk X w1.heap.size (instV ⟨0, 0, 0, 0, rd, rs1, 0, 0, rm, 0, 0⟩) 27 ∧ Blk X (W.heap.size + 1) (bif S 13 then instV ⟨0, 0, 0, 0, rd, rs1, 0, 0, rm, 0, 0⟩ else instV zeroI) 27 ∧ Below W.heap.size W X)
    have kf : ∀ u, (V u).cell? ⟨W.heap.size, 8, none⟩ = some (.int .u8 (rm : Nat)) := fun u => by obtain ⟨S, h, _⟩ := hV u; exact h.cell 8
    replace hV := Lib.hid hV
    replace hU := Lib.hid hU
    refine sets_load_blk rfl (fun _ _ _ h => h) _ _ rfl w1.heap.size rfl _ (instV ⟨0, 0, 0, 0, rd, rs1, 0, 0, rm, 0, 0⟩) _ (fun S X _ h => h.2.1) Try.underlying27 rfl (by kernel_rfl) ?_
    simp only [Act.put, List.setIfInBounds_toArray, List.set_cons_succ, List.set_cons_zero]
    (repeat (first | (refine sets_quiet (fun w' => ∃ u, w' = V u) hU.out rfl (fun _ _ _ h => h) rfl ?_; intro K hK; go_big_quiet_op; first | go_big_quiet_on | (refine ⟨_, fun _ => rfl, ?_⟩; go_big_quiet_on)) | (refine sets_skip rfl (fun _ _ _ h => h) ?_; simp only [Act.put, List.setIfInBounds_toArray, List.set_cons_succ, List.set_cons_zero])))
    refine sets_call (.bool false) rfl 91 [_] _ rfl Try.f91 Try.func91 (by kernel_rfl) (by kernel_rfl) [_] rfl (fun S X a1 a2 a3 => ?_) ?_
    · refine (CM.out X).mono ?_
      rintro e X2 ⟨rfl, rfl⟩
      exact ⟨rfl, a3⟩
    simp only [Act.put, List.setIfInBounds_toArray, List.set_cons_succ, List.set_cons_zero]
    (repeat (first | (refine sets_quiet (fun w' => ∃ u, w' = V u) hU.out rfl (fun _ _ _ h => h) rfl ?_; intro K hK; go_big_quiet_op; first | go_big_quiet_on | (refine ⟨_, fun _ => rfl, ?_⟩; go_big_quiet_on)) | (refine sets_skip rfl (fun _ _ _ h => h) ?_; simp only [Act.put, List.setIfInBounds_toArray, List.set_cons_succ, List.set_cons_zero])))
    refine sets_store_blk rfl _ _ _ rfl rfl (W.heap.size + 1) (instV ⟨0, 0, 0, 0, rd, rs1, 0, 0, rm, 0, 0⟩) rfl rfl 27 (by kernel_rfl) (by simp [Value.oneCell']) ?_ ?_
    · rintro S X a1 _ _ ⟨i1, i2, i3, i4⟩
      refine ⟨⟨_, i3, by cases S 13 <;> rfl⟩, i1.rowOther _ (by omega), i2.rowOther _ (by omega), i3.row _, below_setRow i4 (by omega) _⟩
    (repeat (first | (refine sets_quiet (fun w' => ∃ u, w' = V u) hU.out rfl (fun _ _ _ h => h) rfl ?_; intro K hK; go_big_quiet_op; first | go_big_quiet_on | (refine ⟨_, fun _ => rfl, ?_⟩; go_big_quiet_on)) | (refine sets_skip rfl (fun _ _ _ h => h) ?_; simp only [Act.put, List.setIfInBounds_toArray, List.set_cons_succ, List.set_cons_zero])))
    rintro S X hS ⟨i1, i2, i3, i4⟩
    rw [show S 13 = true from hS 13 (by decide), cond_true] at i3
    clear hU hV kf
    go_wp2
    exact bodyPost_ret (results_c2 rfl _ _ (W.heap.size + 1) _ _ _ rfl i3 Try.underlying27 rfl (by kernel_rfl)) rfl ⟨z, by rw [HC.out]; rfl, fun h => (by rw [HC.out] at h; cases h), HZ2.out, i4⟩
  · skip
    have hm : m0 = true := hcase.1
    have HC : Hid (may2 ⟨op, form, frm, kind, rd, rs1, rs2, rs3, rm, imm, csr⟩ = true) := Lib.hid (by rw [HMAY.out, hm, hcase.2]; rfl)
    have CM : Hid (∀ Y, Calls Try.prog 91 #[.int .u8 rm] Y fun e w' => e = .returned (.bool true) ∧ w' = Y) := Lib.hid fun Y => by have := mode_c Y rm; rw [hcase.2] at this; exact this
    have HZZ : Hid (z = v0 + 4096 * rm) := Lib.hid (HZ.out hm (modeB_lt hcase.2))
    clear hcase
    subst hm
    refine wp_region_sets_lit (fun S X => Blk X W.heap.size (instV ⟨op, form, frm, kind, rd, rs1, rs2, rs3, rm, imm, csr⟩) 27 ∧ Blk X w1.heap.size (instV ⟨0, 0, 0, 0, rd, rs1, 0, 0, rm, 0, 0⟩) 27 ∧ Blk X (W.heap.size + 1) (bif S 13 then instV ⟨0, 0, 0, 0, rd, rs1, 0, 0, rm, 0, 0⟩ else instV zeroI) 27 ∧ Below W.heap.size W X) (by kernel_rfl) (by kernel_rfl) ⟨KI.out, KW.out, KO.out, KB.out.drew⟩ ?_
    obtain ⟨U, V, hV, hU⟩ := worlds (fun S X => Blk X W.heap.size (instV ⟨op, form, frm, kind, rd, rs1, rs2, rs3, rm, imm, csr⟩) 27 ∧ Blk X w1.heap.size (instV ⟨0, 0, 0, 0, rd, rs1, 0, 0, rm, 0, 0⟩) 27 ∧ Blk X (W.heap.size + 1) (bif S 13 then instV ⟨0, 0, 0, 0, rd, rs1, 0, 0, rm, 0, 0⟩ else instV zeroI) 27 ∧ Below W.heap.size W X)
    have kf : ∀ u, (V u).cell? ⟨W.heap.size, 8, none⟩ = some (.int .u8 (rm : Nat)) := fun u => by obtain ⟨S, h, _⟩ := hV u; exact h.cell 8
    replace hV := Lib.hid hV
    replace hU := Lib.hid hU
    refine sets_load_blk rfl (fun _ _ _ h => h) _ _ rfl w1.heap.size rfl _ (instV ⟨0, 0, 0, 0, rd, rs1, 0, 0, rm, 0, 0⟩) _ (fun S X _ h => h.2.1) Try.underlying27 rfl (by kernel_rfl) ?_
    simp only [Act.put, List.setIfInBounds_toArray, List.set_cons_succ, List.set_cons_zero]
    (repeat (first | (refine sets_quiet (fun w' => ∃ u, w' = V u) hU.out rfl (fun _ _ _ h => h) rfl ?_; intro K hK; go_big_quiet_op; first | go_big_quiet_on | (refine ⟨_, fun _ => rfl, ?_⟩; go_big_quiet_on)) | (refine sets_skip rfl (fun _ _ _ h => h) ?_; simp only [Act.put, List.setIfInBounds_toArray, List.set_cons_succ, List.set_cons_zero])))
    refine sets_call (.bool true) rfl 91 [_] _ rfl Try.f91 Try.func91 (by kernel_rfl) (by kernel_rfl) [_] rfl (fun S X a1 a2 a3 => ?_) ?_
    · refine (CM.out X).mono ?_
      rintro e X2 ⟨rfl, rfl⟩
      exact ⟨rfl, a3⟩
    simp only [Act.put, List.setIfInBounds_toArray, List.set_cons_succ, List.set_cons_zero]
    (repeat (first | (refine sets_quiet (fun w' => ∃ u, w' = V u) hU.out rfl (fun _ _ _ h => h) rfl ?_; intro K hK; go_big_quiet_op; first | go_big_quiet_on | (refine ⟨_, fun _ => rfl, ?_⟩; go_big_quiet_on)) | (refine sets_skip rfl (fun _ _ _ h => h) ?_; simp only [Act.put, List.setIfInBounds_toArray, List.set_cons_succ, List.set_cons_zero])))
    refine sets_store_blk rfl _ _ _ rfl rfl (W.heap.size + 1) (instV ⟨0, 0, 0, 0, rd, rs1, 0, 0, rm, 0, 0⟩) rfl rfl 27 (by kernel_rfl) (by simp [Value.oneCell']) ?_ ?_
    · rintro S X a1 _ _ ⟨i1, i2, i3, i4⟩
      refine ⟨⟨_, i3, by cases S 13 <;> rfl⟩, i1.rowOther _ (by omega), i2.rowOther _ (by omega), i3.row _, below_setRow i4 (by omega) _⟩
    (repeat (first | (refine sets_quiet (fun w' => ∃ u, w' = V u) hU.out rfl (fun _ _ _ h => h) rfl ?_; intro K hK; go_big_quiet_op; first | go_big_quiet_on | (refine ⟨_, fun _ => rfl, ?_⟩; go_big_quiet_on)) | (refine sets_skip rfl (fun _ _ _ h => h) ?_; simp only [Act.put, List.setIfInBounds_toArray, List.set_cons_succ, List.set_cons_zero])))
    rintro S X hS ⟨i1, i2, i3, i4⟩
    rw [show S 13 = true from hS 13 (by decide), cond_true] at i3
    clear hU hV kf
    go_wp2
    exact bodyPost_ret (results_c2 rfl _ _ (W.heap.size + 1) _ _ _ rfl i3 Try.underlying27 rfl (by kernel_rfl)) rfl ⟨z, by rw [HC.out]; rfl, fun _ => (by rw [HVV.out]; exact HZZ.out), HZ2.out, i4⟩
abbrev own3 (x : I11) : I11 := ⟨0, 0, 0, 0, x.rd, x.rs1, x.rs2, 0, 0, 0, 0⟩
abbrev may3 (x : I11) : Bool := may1 x && decide (x.rs2 < 32)
abbrev V3 (x : I11) : Nat := V1 x + 1048576 * x.rs2
theorem lay3_c (W : World) (c : Nat) (x : I11) (h1 : x.rd < 256) (h2 : x.rs1 < 256) (h3 : x.rs2 < 256) (h4 : x.rs3 < 256) (h5 : x.rm < 256) (h6 : x.csr < 256) (h7 : -32768 ≤ x.imm ∧ x.imm ≤ 32767) (hc : W.cell? ⟨c, 0, none⟩ = some (.func (.func 89) #[] #[])) : Calls Try.prog 92 #[.agg (instV x), .pointer (some ⟨c, 0, none⟩)] W (LayP W (own3 x) (may3 x) (V3 x)) := by
  have C1 : Hid (∀ Y, Below W.heap.size W Y → Calls Try.prog 89 #[.agg (instV x)] Y (LayP Y (ownRd x) (may1 x) (V1 x))) := Lib.hid fun Y hb => lay1_c Y x h1 h2
  have HV : Hid (may1 x = true → V1 x / 1048576 % 32 = 0 ∧ V1 x < 4294967296) := Lib.hid (fun h => by
    simp only [may1, Bool.and_eq_true, decide_eq_true_eq] at h
    simp only [V1]
    omega)
  obtain ⟨op, form, frm, kind, rd, rs1, rs2, rs3, rm, imm, csr⟩ := x
  simp only [] at h1 h2 h3 h4 h5 h6 h7
  obtain ⟨m0, hm0⟩ : ∃ m0, may1 ⟨op, form, frm, kind, rd, rs1, rs2, rs3, rm, imm, csr⟩ = m0 := ⟨_, rfl⟩
  obtain ⟨v0, hv0⟩ : ∃ v0, V1 ⟨op, form, frm, kind, rd, rs1, rs2, rs3, rm, imm, csr⟩ = v0 := ⟨_, rfl⟩
  have HMAY : Hid (may3 ⟨op, form, frm, kind, rd, rs1, rs2, rs3, rm, imm, csr⟩ = (m0 && decide (rs2 < 32))) := Lib.hid (by rw [← hm0])
  have HVV : Hid (V3 ⟨op, form, frm, kind, rd, rs1, rs2, rs3, rm, imm, csr⟩ = v0 + 1048576 * rs2) := Lib.hid (by rw [← hv0])
  rw [hm0, hv0] at C1 HV
  clear hm0 hv0
  have kI := (Blk.new W (instV ⟨op, form, frm, kind, rd, rs1, rs2, rs3, rm, imm, csr⟩) 27).alloc (.cells (instV zeroI) 27)
  have kO := Blk.new (W.alloc (.cells (instV ⟨op, form, frm, kind, rd, rs1, rs2, rs3, rm, imm, csr⟩) 27)) (instV zeroI) 27
  have kB := ((Below.refl W.heap.size W).alloc (Nat.le_refl _) (.cells (instV ⟨op, form, frm, kind, rd, rs1, rs2, rs3, rm, imm, csr⟩) 27)).alloc (by simp) (.cells (instV zeroI) 27)
  rw [World.size_alloc] at kO
  obtain ⟨A, hA⟩ : ∃ A, ((W.alloc (.cells (instV ⟨op, form, frm, kind, rd, rs1, rs2, rs3, rm, imm, csr⟩) 27)).alloc (.cells (instV zeroI) 27)) = A := ⟨_, rfl⟩
  rw [hA] at kI kO kB
  have hcA := cell_later' kB hc
  have CA := Lib.hid (C1.out A kB)
  have HA := Lib.hid hA
  have KI := Lib.hid kI
  have KO := Lib.hid kO
  have KB := Lib.hid kB
  clear hA kI kO kB hc C1
  go_enter Try.func92, Try.ntmps92
  go_upto_region 1 with fail
  show Code.wp _ _ _ _ ((W.alloc (.cells (instV ⟨op, form, frm, kind, rd, rs1, rs2, rs3, rm, imm, csr⟩) 27)).alloc (.cells (instV zeroI) 27))
  rw [HA.out]
  go_upto_region 3 with (first
    | (refine wpList_load_blk rfl _ _ rfl _ rfl _ _ _ KI.out Try.underlying27 rfl (by kernel_rfl) ?_)
    | (go_at_call 89; (with_reducible refine CA.out.mono ?_); rintro e w1 ⟨z0, rfl, hz0, hz32, hb1⟩; clear CA; have cf : w1.cell? ⟨W.heap.size, 6, none⟩ = some (.int .u8 (rs2 : Nat)) := (KI.out.call hb1).cell 6; have cf2 : ∀ o, (w1.alloc o).cell? ⟨W.heap.size, 6, none⟩ = some (.int .u8 (rs2 : Nat)) := fun o => ((KI.out.call hb1).alloc o).cell 6))
  have kI := (KI.out.call hb1).alloc (.cells (instV ⟨0, 0, 0, 0, rd, rs1, rs2, 0, 0, 0, 0⟩) 27)
  have kO := (KO.out.call hb1).alloc (.cells (instV ⟨0, 0, 0, 0, rd, rs1, rs2, 0, 0, 0, 0⟩) 27)
  have kW := Blk.new w1 (instV ⟨0, 0, 0, 0, rd, rs1, rs2, 0, 0, 0, 0⟩) 27
  have hs1 : W.heap.size + 1 < w1.heap.size := (KO.out.call hb1).lt
  have kB := (KB.out.trans (hb1.mono KB.out.size)).alloc (by omega) (.cells (instV ⟨0, 0, 0, 0, rd, rs1, rs2, 0, 0, 0, 0⟩) 27)
  show Code.wp _ _ _ _ (w1.alloc (.cells (instV ⟨0, 0, 0, 0, rd, rs1, rs2, 0, 0, 0, 0⟩) 27))
  obtain ⟨A2, hA2⟩ : ∃ A2, w1.alloc (.cells (instV ⟨0, 0, 0, 0, rd, rs1, rs2, 0, 0, 0, 0⟩) 27) = A2 := ⟨_, rfl⟩
  rw [hA2] at kI kO kW kB ⊢
  clear hA2 cf cf2 hb1 HA KI KO KB hcA
  obtain ⟨z, hz⟩ : ∃ z, z0 ||| rs2 * 1048576 % 4294967296 = z := ⟨_, rfl⟩
  have hz2 : z < 4294967296 := by rw [← hz]; exact or_lt32 hz32 (Nat.mod_lt _ (by decide))
  have e1 : bits .or .u32 (z0 : Int) ((rs2 : Int) * 1048576) = ((z : Nat) : Int) := by
    have h1 : (rs2 : Int) * 1048576 = ((rs2 * 1048576 % 4294967296 : Nat) : Int) := by omega
    rw [h1, or32 _ _ hz32 (Nat.mod_lt _ (by decide)), hz]
  have HZ : Hid (m0 = true → rs2 < 32 → z = v0 + 1048576 * rs2) := Lib.hid (fun hm hl => by
    have a := HV.out hm
    rw [← hz, Nat.mod_eq_of_lt (by omega), hz0 hm, or_sum 20 5 a.1 hl]
    omega)
  have HZ2 := Lib.hid hz2
  clear hz hz2 hz0 HV
  have KI := Lib.hid kI
  have KO := Lib.hid kO
  have KW := Lib.hid kW
  have KB := Lib.hid kB
  clear kI kO kW kB
  rcases (by cases m0 <;> simp <;> omega : (m0 = false) ∨ (m0 = true ∧ ¬ rs2 < 32) ∨ (m0 = true ∧ rs2 < 32)) with hcase | hcase | hcase
  · skip
    have hm : m0 = false := hcase
    have HC : Hid (may3 ⟨op, form, frm, kind, rd, rs1, rs2, rs3, rm, imm, csr⟩ = false) := Lib.hid (by rw [HMAY.out, hm]; rfl)
    clear hcase
    subst hm
    refine wp_region_sets_lit (fun S X => Blk X W.heap.size (instV ⟨op, form, frm, kind, rd, rs1, rs2, rs3, rm, imm, csr⟩) 27 ∧ Blk X w1.heap.size (instV ⟨0, 0, 0, 0, rd, rs1, rs2, 0, 0, 0, 0⟩) 27 ∧ Blk X (W.heap.size + 1) (bif S 13 then instV ⟨0, 0, 0, 0, rd, rs1, rs2, 0, 0, 0, 0⟩ else instV zeroI) 27 ∧ Below W.heap.size W X) (by kernel_rfl) (by kernel_rfl) ⟨KI.out, KW.out, KO.out, KB.out.drew⟩ ?_
    obtain ⟨U, V, hV, hU⟩ := worlds (fun S X => Blk X W.heap.size (instV ⟨op, form, frm, kind, rd, rs1, rs2, rs3, rm, imm, csr⟩) 27 ∧ Blk X w1.heap.size (instV ⟨0, 0, 0, 0, rd, rs1, rs2, 0, 0, 0, 0⟩) 27 ∧ Blk X (W.heap.size + 1) (bif S 13 then instV ⟨0, 0, 0, 0, rd, rs1, rs2, 0, 0, 0, 0⟩ else instV zeroI) 27 ∧ Below W.heap.size W X)
    have kf : ∀ u, (V u).cell? ⟨W.heap.size, 6, none⟩ = some (.int .u8 (rs2 : Nat)) := fun u => by obtain ⟨S, h, _⟩ := hV u; exact h.cell 6
    replace hV := Lib.hid hV
    replace hU := Lib.hid hU
    refine sets_load_blk rfl (fun _ _ _ h => h) _ _ rfl w1.heap.size rfl _ (instV ⟨0, 0, 0, 0, rd, rs1, rs2, 0, 0, 0, 0⟩) _ (fun S X _ h => h.2.1) Try.underlying27 rfl (by kernel_rfl) ?_
    simp only [Act.put, List.setIfInBounds_toArray, List.set_cons_succ, List.set_cons_zero]
    (repeat (first | (refine sets_quiet (fun w' => ∃ u, w' = V u) hU.out rfl (fun _ _ _ h => h) rfl ?_; intro K hK; go_big_quiet_op; first | go_big_quiet_on | (refine ⟨_, fun _ => rfl, ?_⟩; go_big_quiet_on)) | (refine sets_skip rfl (fun _ _ _ h => h) ?_; simp only [Act.put, List.setIfInBounds_toArray, List.set_cons_succ, List.set_cons_zero])))
    refine sets_store_blk rfl _ _ _ rfl rfl (W.heap.size + 1) (instV ⟨0, 0, 0, 0, rd, rs1, rs2, 0, 0, 0, 0⟩) rfl rfl 27 (by kernel_rfl) (by simp [Value.oneCell']) ?_ ?_
    · rintro S X a1 _ _ ⟨i1, i2, i3, i4⟩
      refine ⟨⟨_, i3, by cases S 13 <;> rfl⟩, i1.rowOther _ (by omega), i2.rowOther _ (by omega), i3.row _, below_setRow i4 (by omega) _⟩
    (repeat (first | (refine sets_quiet (fun w' => ∃ u, w' = V u) hU.out rfl (fun _ _ _ h => h) rfl ?_; intro K hK; go_big_quiet_op; first | go_big_quiet_on | (refine ⟨_, fun _ => rfl, ?_⟩; go_big_quiet_on)) | (refine sets_skip rfl (fun _ _ _ h => h) ?_; simp only [Act.put, List.setIfInBounds_toArray, List.set_cons_succ, List.set_cons_zero])))
    rintro S X hS ⟨i1, i2, i3, i4⟩
    rw [show S 13 = true from hS 13 (by decide), cond_true] at i3
    clear hU hV kf
    go_wp2
    exact bodyPost_ret (results_c2 rfl _ _ (W.heap.size + 1) _ _ _ rfl i3 Try.underlying27 rfl (by kernel_rfl)) rfl ⟨z, by rw [HC.out]; rfl, fun h => (by rw [HC.out] at h; cases h), HZ2.out, i4⟩
  · skip
    have hm : m0 = true := hcase.1
    have HC : Hid (may3 ⟨op, form, frm, kind, rd, rs1, rs2, rs3, rm, imm, csr⟩ = false) := Lib.hid (by rw [HMAY.out, hm, decide_eq_false hcase.2]; rfl)
    have y0 : decide ((rs2 : Int) < 32) = false := decide_eq_false (by omega)
    clear hcase
    subst hm
    refine wp_region_sets_lit (fun S X => Blk X W.heap.size (instV ⟨op, form, frm, kind, rd, rs1, rs2, rs3, rm, imm, csr⟩) 27 ∧ Blk X w1.heap.size (instV ⟨0, 0, 0, 0, rd, rs1, rs2, 0, 0, 0, 0⟩) 27 ∧ Blk X (W.heap.size + 1) (bif S 13 then instV ⟨0, 0, 0, 0, rd, rs1, rs2, 0, 0, 0, 0⟩ else instV zeroI) 27 ∧ Below W.heap.size W X) (by kernel_rfl) (by kernel_rfl) ⟨KI.out, KW.out, KO.out, KB.out.drew⟩ ?_
    obtain ⟨U, V, hV, hU⟩ := worlds (fun S X => Blk X W.heap.size (instV ⟨op, form, frm, kind, rd, rs1, rs2, rs3, rm, imm, csr⟩) 27 ∧ Blk X w1.heap.size (instV ⟨0, 0, 0, 0, rd, rs1, rs2, 0, 0, 0, 0⟩) 27 ∧ Blk X (W.heap.size + 1) (bif S 13 then instV ⟨0, 0, 0, 0, rd, rs1, rs2, 0, 0, 0, 0⟩ else instV zeroI) 27 ∧ Below W.heap.size W X)
    have kf : ∀ u, (V u).cell? ⟨W.heap.size, 6, none⟩ = some (.int .u8 (rs2 : Nat)) := fun u => by obtain ⟨S, h, _⟩ := hV u; exact h.cell 6
    replace hV := Lib.hid hV
    replace hU := Lib.hid hU
    refine sets_load_blk rfl (fun _ _ _ h => h) _ _ rfl w1.heap.size rfl _ (instV ⟨0, 0, 0, 0, rd, rs1, rs2, 0, 0, 0, 0⟩) _ (fun S X _ h => h.2.1) Try.underlying27 rfl (by kernel_rfl) ?_
    simp only [Act.put, List.setIfInBounds_toArray, List.set_cons_succ, List.set_cons_zero]
    (repeat (first | (refine sets_quiet (fun w' => ∃ u, w' = V u) hU.out rfl (fun _ _ _ h => h) rfl ?_; intro K hK; go_big_quiet_op; first | go_big_quiet_on | (refine ⟨_, fun _ => rfl, ?_⟩; go_big_quiet_on)) | (refine sets_skip rfl (fun _ _ _ h => h) ?_; simp only [Act.put, List.setIfInBounds_toArray, List.set_cons_succ, List.set_cons_zero])))
    refine sets_store_blk rfl _ _ _ rfl rfl (W.heap.size + 1) (instV ⟨0, 0, 0, 0, rd, rs1, rs2, 0, 0, 0, 0⟩) rfl rfl 27 (by kernel_rfl) (by simp [Value.oneCell']) ?_ ?_
    · rintro S X a1 _ _ ⟨i1, i2, i3, i4⟩
      refine ⟨⟨_, i3, by cases S 13 <;> rfl⟩, i1.rowOther _ (by omega), i2.rowOther _ (by omega), i3.row _, below_setRow i4 (by omega) _⟩
    (repeat (first | (refine sets_quiet (fun w' => ∃ u, w' = V u) hU.out rfl (fun _ _ _ h => h) rfl ?_; intro K hK; go_big_quiet_op; first | go_big_quiet_on | (refine ⟨_, fun _ => rfl, ?_⟩; go_big_quiet_on)) | (refine sets_skip rfl (fun _ _ _ h => h) ?_; simp only [Act.put, List.setIfInBounds_toArray, List.set_cons_succ, List.set_cons_zero])))
    rintro S X hS ⟨i1, i2, i3, i4⟩
    rw [show S 13 = true from hS 13 (by decide), cond_true] at i3
    clear hU hV kf
    go_wp2
    exact bodyPost_ret (results_c2 rfl _ _ (W.heap.size + 1) _ _ _ rfl i3 Try.underlying27 rfl (by kernel_rfl)) rfl ⟨z, by rw [HC.out]; rfl, fun h => (by rw [HC.out] at h; cases h), HZ2.out, i4⟩
  · skip
    have hm : m0 = true := hcase.1
    have HC : Hid (may3 ⟨op, form, frm, kind, rd, rs1, rs2, rs3, rm, imm, csr⟩ = true) := Lib.hid (by rw [HMAY.out, hm, decide_eq_true hcase.2]; rfl)
    have y0 : decide ((rs2 : Int) < 32) = true := decide_eq_true (by omega)
    have HZZ : Hid (z = v0 + 1048576 * rs2) := Lib.hid (HZ.out hm hcase.2)
    clear hcase
    subst hm
    refine wp_region_sets_lit (fun S X => Blk X W.heap.size (instV ⟨op, form, frm, kind, rd, rs1, rs2, rs3, rm, imm, csr⟩) 27 ∧ Blk X w1.heap.size (instV ⟨0, 0, 0, 0, rd, rs1, rs2, 0, 0, 0, 0⟩) 27 ∧ Blk X (W.heap.size + 1) (bif S 13 then instV ⟨0, 0, 0, 0, rd, rs1, rs2, 0, 0, 0, 0⟩ else instV zeroI) 27 ∧ Below W.heap.size W X) (by kernel_rfl) (by kernel_rfl) ⟨KI.out, KW.out, KO.out, KB.out.drew⟩ ?_
    obtain ⟨U, V, hV, hU⟩ := worlds (fun S X => Blk X W.heap.size (instV ⟨op, form, frm, kind, rd, rs1, rs2, rs3, rm, imm, csr⟩) 27 ∧ Blk X w1.heap.size (instV ⟨0, 0, 0, 0, rd, rs1, rs2, 0, 0, 0, 0⟩) 27 ∧ Blk X (W.heap.size + 1) (bif S 13 then instV ⟨0, 0, 0, 0, rd, rs1, rs2, 0, 0, 0, 0⟩ else instV zeroI) 27 ∧ Below W.heap.size W X)
    have kf : ∀ u, (V u).cell? ⟨W.heap.size, 6, none⟩ = some (.int .u8 (rs2 : Nat)) := fun u => by obtain ⟨S, h, _⟩ := hV u; exact h.cell 6
    replace hV := Lib.hid hV
    replace hU := Lib.hid hU
    refine sets_load_blk rfl (fun _ _ _ h => h) _ _ rfl w1.heap.size rfl _ (instV ⟨0, 0, 0, 0, rd, rs1, rs2, 0, 0, 0, 0⟩) _ (fun S X _ h => h.2.1) Try.underlying27 rfl (by kernel_rfl) ?_
    simp only [Act.put, List.setIfInBounds_toArray, List.set_cons_succ, List.set_cons_zero]
    (repeat (first | (refine sets_quiet (fun w' => ∃ u, w' = V u) hU.out rfl (fun _ _ _ h => h) rfl ?_; intro K hK; go_big_quiet_op; first | go_big_quiet_on | (refine ⟨_, fun _ => rfl, ?_⟩; go_big_quiet_on)) | (refine sets_skip rfl (fun _ _ _ h => h) ?_; simp only [Act.put, List.setIfInBounds_toArray, List.set_cons_succ, List.set_cons_zero])))
    refine sets_store_blk rfl _ _ _ rfl rfl (W.heap.size + 1) (instV ⟨0, 0, 0, 0, rd, rs1, rs2, 0, 0, 0, 0⟩) rfl rfl 27 (by kernel_rfl) (by simp [Value.oneCell']) ?_ ?_
    · rintro S X a1 _ _ ⟨i1, i2, i3, i4⟩
      refine ⟨⟨_, i3, by cases S 13 <;> rfl⟩, i1.rowOther _ (by omega), i2.rowOther _ (by omega), i3.row _, below_setRow i4 (by omega) _⟩
    (repeat (first | (refine sets_quiet (fun w' => ∃ u, w' = V u) hU.out rfl (fun _ _ _ h => h) rfl ?_; intro K hK; go_big_quiet_op; first | go_big_quiet_on | (refine ⟨_, fun _ => rfl, ?_⟩; go_big_quiet_on)) | (refine sets_skip rfl (fun _ _ _ h => h) ?_; simp only [Act.put, List.setIfInBounds_toArray, List.set_cons_succ, List.set_cons_zero])))
    rintro S X hS ⟨i1, i2, i3, i4⟩
    rw [show S 13 = true from hS 13 (by decide), cond_true] at i3
    clear hU hV kf
    go_wp2
    exact bodyPost_ret (results_c2 rfl _ _ (W.heap.size + 1) _ _ _ rfl i3 Try.underlying27 rfl (by kernel_rfl)) rfl ⟨z, by rw [HC.out]; rfl, fun _ => (by rw [HVV.out]; exact HZZ.out), HZ2.out, i4⟩
abbrev own4 (x : I11) : I11 := ⟨0, 0, 0, 0, x.rd, x.rs1, x.rs2, 0, x.rm, 0, 0⟩
abbrev may4 (x : I11) : Bool := may3 x && modeB x.rm
abbrev V4 (x : I11) : Nat := V3 x + 4096 * x.rm
theorem lay4_c (W : World) (c c' : Nat) (x : I11) (h1 : x.rd < 256) (h2 : x.rs1 < 256) (h3 : x.rs2 < 256) (h4 : x.rs3 < 256) (h5 : x.rm < 256) (h6 : x.csr < 256) (h7 : -32768 ≤ x.imm ∧ x.imm ≤ 32767) (hc : W.cell? ⟨c, 0, none⟩ = some (.func (.func 92) #[] #[.pointer (some ⟨c', 0, none⟩)])) (hc' : W.cell? ⟨c', 0, none⟩ = some (.func (.func 89) #[] #[])) : Calls Try.prog 93 #[.agg (instV x), .pointer (some ⟨c, 0, none⟩)] W (LayP W (own4 x) (may4 x) (V4 x)) := by
  have C1 : Hid (∀ Y, Below W.heap.size W Y → Calls Try.prog 92 #[.agg (instV x), .pointer (some ⟨c', 0, none⟩)] Y (LayP Y (own3 x) (may3 x) (V3 x))) := Lib.hid fun Y hb => lay3_c Y c' x h1 h2 h3 h4 h5 h6 h7 (cell_later' hb hc')
  have HV : Hid (may3 x = true → V3 x / 4096 % 8 = 0 ∧ V3 x < 4294967296) := Lib.hid (fun h => by
    simp only [may3, may1, Bool.and_eq_true, decide_eq_true_eq] at h
    simp only [V3, V1]
    omega)
  obtain ⟨op, form, frm, kind, rd, rs1, rs2, rs3, rm, imm, csr⟩ := x
  simp only [] at h1 h2 h3 h4 h5 h6 h7
  obtain ⟨m0, hm0⟩ : ∃ m0, may3 ⟨op, form, frm, kind, rd, rs1, rs2, rs3, rm, imm, csr⟩ = m0 := ⟨_, rfl⟩
  obtain ⟨v0, hv0⟩ : ∃ v0, V3 ⟨op, form, frm, kind, rd, rs1, rs2, rs3, rm, imm, csr⟩ = v0 := ⟨_, rfl⟩
  have HMAY : Hid (may4 ⟨op, form, frm, kind, rd, rs1, rs2, rs3, rm, imm, csr⟩ = (m0 && modeB rm)) := Lib.hid (by rw [← hm0])
  have HVV : Hid (V4 ⟨op, form, frm, kind, rd, rs1, rs2, rs3, rm, imm, csr⟩ = v0 + 4096 * rm) := Lib.hid (by rw [← hv0])
  rw [hm0, hv0] at C1 HV
  clear hm0 hv0
  have kI := (Blk.new W (instV ⟨op, form, frm, kind, rd, rs1, rs2, rs3, rm, imm, csr⟩) 27).alloc (.cells (instV zeroI) 27)
  have kO := Blk.new (W.alloc (.cells (instV ⟨op, form, frm, kind, rd, rs1, rs2, rs3, rm, imm, csr⟩) 27)) (instV zeroI) 27
  have kB := ((Below.refl W.heap.size W).alloc (Nat.le_refl _) (.cells (instV ⟨op, form, frm, kind, rd, rs1, rs2, rs3, rm, imm, csr⟩) 27)).alloc (by simp) (.cells (instV zeroI) 27)
  rw [World.size_alloc] at kO
  obtain ⟨A, hA⟩ : ∃ A, ((W.alloc (.cells (instV ⟨op, form, frm, kind, rd, rs1, rs2, rs3, rm, imm, csr⟩) 27)).alloc (.cells (instV zeroI) 27)) = A := ⟨_, rfl⟩
  rw [hA] at kI kO kB
  have hcA := cell_later' kB hc
  have CA := Lib.hid (C1.out A kB)
  have HA := Lib.hid hA
  have KI := Lib.hid kI
  have KO := Lib.hid kO
  have KB := Lib.hid kB
  clear hA kI kO kB hc C1 hc'
  go_enter Try.func93, Try.ntmps93
  go_upto_region 1 with fail
  show Code.wp _ _ _ _ ((W.alloc (.cells (instV ⟨op, form, frm, kind, rd, rs1, rs2, rs3, rm, imm, csr⟩) 27)).alloc (.cells (instV zeroI) 27))
  rw [HA.out]
  go_upto_region 3 with (first
    | (refine wpList_load_blk rfl _ _ rfl _ rfl _ _ _ KI.out Try.underlying27 rfl (by kernel_rfl) ?_)
    | (go_at_call 92; (with_reducible refine CA.out.mono ?_); rintro e w1 ⟨z0, rfl, hz0, hz32, hb1⟩; clear CA; have cf : w1.cell? ⟨W.heap.size, 8, none⟩ = some (.int .u8 (rm : Nat)) := (KI.out.call hb1).cell 8; have cf2 : ∀ o, (w1.alloc o).cell? ⟨W.heap.size, 8, none⟩ = some (.int .u8 (rm : Nat)) := fun o => ((KI.out.call hb1).alloc o).cell 8))
  have kI := (KI.out.call hb1).alloc (.cells (instV ⟨0, 0, 0, 0, rd, rs1, rs2, 0, rm, 0, 0⟩) 27)
  have kO := (KO.out.call hb1).alloc (.cells (instV ⟨0, 0, 0, 0, rd, rs1, rs2, 0, rm, 0, 0⟩) 27)
  have kW := Blk.new w1 (instV ⟨0, 0, 0, 0, rd, rs1, rs2, 0, rm, 0, 0⟩) 27
  have hs1 : W.heap.size + 1 < w1.heap.size := (KO.out.call hb1).lt
  have kB := (KB.out.trans (hb1.mono KB.out.size)).alloc (by omega) (.cells (instV ⟨0, 0, 0, 0, rd, rs1, rs2, 0, rm, 0, 0⟩) 27)
  show Code.wp _ _ _ _ (w1.alloc (.cells (instV ⟨0, 0, 0, 0, rd, rs1, rs2, 0, rm, 0, 0⟩) 27))
  obtain ⟨A2, hA2⟩ : ∃ A2, w1.alloc (.cells (instV ⟨0, 0, 0, 0, rd, rs1, rs2, 0, rm, 0, 0⟩) 27) = A2 := ⟨_, rfl⟩
  rw [hA2] at kI kO kW kB ⊢
  clear hA2 cf cf2 hb1 HA KI KO KB hcA
  obtain ⟨z, hz⟩ : ∃ z, z0 ||| rm * 4096 % 4294967296 = z := ⟨_, rfl⟩
  have hz2 : z < 4294967296 := by rw [← hz]; exact or_lt32 hz32 (Nat.mod_lt _ (by decide))
  have e1 : bits .or .u32 (z0 : Int) ((rm : Int) * 4096) = ((z : Nat) : Int) := by
    have h1 : (rm : Int) * 4096 = ((rm * 4096 % 4294967296 : Nat) : Int) := by omega
    rw [h1, or32 _ _ hz32 (Nat.mod_lt _ (by decide)), hz]
  have HZ : Hid (m0 = true → rm < 8 → z = v0 + 4096 * rm) := Lib.hid (fun hm hl => by
    have a := HV.out hm
    rw [← hz, Nat.mod_eq_of_lt (by omega), hz0 hm, or_sum 12 3 a.1 hl]
    omega)
  have HZ2 := Lib.hid hz2
  clear hz hz2 hz0 HV
  have KI := Lib.hid kI
  have KO := Lib.hid kO
  have KW := Lib.hid kW
  have KB := Lib.hid kB
  clear kI kO kW kB
  rcases (by cases m0 <;> simp <;> cases modeB rm <;> simp : (m0 = false) ∨ (m0 = true ∧ modeB rm = false) ∨ (m0 = true ∧ modeB rm = true)) with hcase | hcase | hcase
  · skip
    have hm : m0 = false := hcase
    have HC : Hid (may4 ⟨op, form, frm, kind, rd, rs1, rs2, rs3, rm, imm, csr⟩ = false) := Lib.hid (by rw [HMAY.out, hm]; rfl)
    clear hcase
    subst hm
    refine wp_region_sets_lit (fun S X => Blk X W.heap.size (instV ⟨op, form, frm, kind, rd, rs1, rs2, rs3, rm, imm, csr⟩) 27 ∧ Blk X w1.heap.size (instV ⟨0, 0, 0, 0, rd, rs1, rs2, 0, rm, 0, 0⟩) 27 ∧ Blk X (W.heap.size + 1) (bif S 13 then instV ⟨0, 0, 0, 0, rd, rs1, rs2, 0, rm, 0, 0⟩ else instV zeroI) 27 ∧ Below W.heap.size W X) (by kernel_rfl) (by kernel_rfl) ⟨KI.out, KW.out, KO.out, KB.out.drew⟩ ?_
    obtain ⟨U, V, hV, hU⟩ := worlds (fun S X => Blk X W.heap.size (instV ⟨op, form, frm, kind, rd, rs1, rs2, rs3, rm, imm, csr⟩) 27 ∧ Blk X w1.heap.size (instV ⟨0, 0, 0, 0, rd, rs1, rs2, 0, rm, 0, 0⟩) 27 ∧ Blk X (W.heap.size + 1) (bif S 13 then instV ⟨0, 0, 0, 0, rd, rs1, rs2, 0, rm, 0, 0⟩ else instV zeroI) 27 ∧ Below W.heap.size W X)
    have kf : ∀ u, (V u).cell? ⟨W.heap.size, 8, none⟩ = some (.int .u8 (rm : Nat)) := fun u => by obtain ⟨S, h, _⟩ := hV u; exact h.cell 8
    replace hV := Lib.hid hV
    replace hU := Lib.hid hU
    refine sets_load_blk rfl (fun _ _ _ h => h) _ _ rfl w1.heap.size rfl _ (instV ⟨0, 0, 0, 0, rd, rs1, rs2, 0, rm, 0, 0⟩) _ (fun S X _ h => h.2.1) Try.underlying27 rfl (by kernel_rfl) ?_
    simp only [Act.put, List.setIfInBounds_toArray, List.set_cons_succ, List.set_cons_zero]
    (repeat (first | (refine sets_quiet (fun w' => ∃ u, w' = V u) hU.out rfl (fun _ _ _ h => h) rfl ?_; intro K hK; go_big_quiet_op; first | go_big_quiet_on | (refine ⟨_, fun _ => rfl, ?_⟩; go_big_quiet_on)) | (refine sets_skip rfl (fun _ _ _ h => h) ?_; simp only [Act.put, List.setIfInBounds_toArray, List.set_cons_succ, List.set_cons_zero])))
    refine sets_store_blk rfl _ _ _ rfl rfl (W.heap.size + 1) (instV ⟨0, 0, 0, 0, rd, rs1, rs2, 0, rm, 0, 0⟩) rfl rfl 27 (by kernel_rfl) (by simp [Value.oneCell']) ?_ ?_
    · rintro S X a1 _ _ ⟨i1, i2, i3, i4⟩
      refine ⟨⟨_, i3, by cases S 13 <;> rfl⟩, i1.rowOther _ (by omega), i2.rowOther _ (by omega), i3.row _, below_setRow i4 (by omega) _⟩
    (repeat (first | (refine sets_quiet (fun w' => ∃ u, w' = V u) hU.out rfl (fun _ _ _ h => h) rfl ?_; intro K hK; go_big_quiet_op; first | go_big_quiet_on | (refine ⟨_, fun _ => rfl, ?_⟩; go_big_quiet_on)) | (refine sets_skip rfl (fun _ _ _ h => h) ?_; simp only [Act.put, List.setIfInBounds_toArray, List.set_cons_succ, List.set_cons_zero])))
    rintro S X hS ⟨i1, i2, i3, i4⟩
    rw [show S 13 = true from hS 13 (by decide), cond_true] at i3
    clear hU hV kf
    go_wp2
    exact bodyPost_ret (results_c2 rfl _ _ (W.heap.size + 1) _ _ _ rfl i3 Try.underlying27 rfl (by kernel_rfl)) rfl ⟨z, by rw [HC.out]; rfl, fun h => (by rw [HC.out] at h; cases h), HZ2.out, i4⟩
  · skip
    have hm : m0 = true := hcase.1
    have HC : Hid (may4 ⟨op, form, frm, kind, rd, rs1, rs2, rs3, rm, imm, csr⟩ = false) := Lib.hid (by rw [HMAY.out, hm, hcase.2]; rfl)
    have CM : Hid (∀ Y, Calls Try.prog 91 #[.int .u8 rm] Y fun e w' => e = .returned (.bool false) ∧ w' = Y) := Lib.hid fun Y => by have := mode_c Y rm; rw [hcase.2] at this; exact this
    clear hcase
    subst hm
    refine wp_region_sets_lit (fun S X => Blk X W.heap.size (instV ⟨op, form, frm, kind, rd, rs1, rs2, rs3, rm, imm, csr⟩) 27 ∧ Blk X w1.heap.size (instV ⟨0, 0, 0, 0, rd, rs1, rs2, 0, rm, 0, 0⟩) 27 ∧ Blk X (W.heap.size + 1) (bif S 13 then instV ⟨0, 0, 0, 0, rd, rs1, rs2, 0, rm, 0, 0⟩ else instV zeroI) 27 ∧ Below W.heap.size W X) (by kernel_rfl) (by kernel_rfl) ⟨KI.out, KW.out, KO.out, KB.out.drew⟩ ?_
    obtain ⟨U, V, hV, hU⟩ := worlds (fun S X => Blk X W.heap.size (instV ⟨op, form, frm, kind, rd, rs1, rs2, rs3, rm, imm, csr⟩) 27 ∧ Blk X w1.heap.size (instV ⟨0, 0, 0, 0, rd, rs1, rs2, 0, rm, 0, 0⟩) 27 ∧ Blk X (W.heap.size + 1) (bif S 13 then instV ⟨0, 0, 0, 0, rd, rs1, rs2, 0, rm, 0, 0⟩ else instV zeroI) 27 ∧ Below W.heap.size W X)
    have kf : ∀ u, (V u).cell? ⟨W.heap.size, 8, none⟩ = some (.int .u8 (rm : Nat)) := fun u => by obtain ⟨S, h, _⟩ := hV u; exact h.cell 8
    replace hV := Lib.hid hV
    replace hU := Lib.hid hU
    refine sets_load_blk rfl (fun _ _ _ h => h) _ _ rfl w1.heap.size rfl _ (instV ⟨0, 0, 0, 0, rd, rs1, rs2, 0, rm, 0, 0⟩) _ (fun S X _ h => h.2.1) Try.underlying27 rfl (by kernel_rfl) ?_
    simp only [Act.put, List.setIfInBounds_toArray, List.set_cons_succ, List.set_cons_zero]
    (repeat (first | (refine sets_quiet (fun w' => ∃ u, w' = V u) hU.out rfl (fun _ _ _ h => h) rfl ?_; intro K hK; go_big_quiet_op; first | go_big_quiet_on | (refine ⟨_, fun _ => rfl, ?_⟩; go_big_quiet_on)) | (refine sets_skip rfl (fun _ _ _ h => h) ?_; simp only [Act.put, List.setIfInBounds_toArray, List.set_cons_succ, List.set_cons_zero])))
    refine sets_call (.bool false) rfl 91 [_] _ rfl Try.f91 Try.func91 (by kernel_rfl) (by kernel_rfl) [_] rfl (fun S X a1 a2 a3 => ?_) ?_
    · refine (CM.out X).mono ?_
      rintro e X2 ⟨rfl, rfl⟩
      exact ⟨rfl, a3⟩
    simp only [Act.put, List.setIfInBounds_toArray, List.set_cons_succ, List.set_cons_zero]
    (repeat (first | (refine sets_quiet (fun w' => ∃ u, w' = V u) hU.out rfl (fun _ _ _ h => h) rfl ?_; intro K hK; go_big_quiet_op; first | go_big_quiet_on | (refine ⟨_, fun _ => rfl, ?_⟩; go_big_quiet_on)) | (refine sets_skip rfl (fun _ _ _ h => h) ?_; simp only [Act.put, List.setIfInBounds_toArray, List.set_cons_succ, List.set_cons_zero])))
    refine sets_store_blk rfl _ _ _ rfl rfl (W.heap.size + 1) (instV ⟨0, 0, 0, 0, rd, rs1, rs2, 0, rm, 0, 0⟩) rfl rfl 27 (by kernel_rfl) (by simp [Value.oneCell']) ?_ ?_
    · rintro S X a1 _ _ ⟨i1, i2, i3, i4⟩
      refine ⟨⟨_, i3, by cases S 13 <;> rfl⟩, i1.rowOther _ (by omega), i2.rowOther _ (by omega), i3.row _, below_setRow i4 (by omega) _⟩
    (repeat (first | (refine sets_quiet (fun w' => ∃ u, w' = V u) hU.out rfl (fun _ _ _ h => h) rfl ?_; intro K hK; go_big_quiet_op; first | go_big_quiet_on | (refine ⟨_, fun _ => rfl, ?_⟩; go_big_quiet_on)) | (refine sets_skip rfl (fun _ _ _ h => h) ?_; simp only [Act.put, List.setIfInBounds_toArray, List.set_cons_succ, List.set_cons_zero])))
    rintro S X hS ⟨i1, i2, i3, i4⟩
    rw [show S 13 = true from hS 13 (by decide), cond_true] at i3
    clear hU hV kf
    go_wp2
    exact bodyPost_ret (results_c2 rfl _ _ (W.heap.size + 1) _ _ _ rfl i3 Try.underlying27 rfl (by kernel_rfl)) rfl ⟨z, by rw [HC.out]; rfl, fun h => (by rw [HC.out] at h; cases h), HZ2.out, i4⟩
  · skip
    have hm : m0 = true := hcase.1
    have HC : Hid (may4 ⟨op, form, frm, kind, rd, rs1, rs2, rs3, rm, imm, csr⟩ = true) := Lib.hid (by rw [HMAY.out, hm, hcase.2]; rfl)
    have CM : Hid (∀ Y, Calls Try.prog 91 #[.int .u8 rm] Y fun e w' => e = .returned (.bool true) ∧ w' = Y) := Lib.hid fun Y => by have := mode_c Y rm; rw [hcase.2] at this; exact this
    have HZZ : Hid (z = v0 + 4096 * rm) := Lib.hid (HZ.out hm (modeB_lt hcase.2))
    clear hcase
    subst hm
    refine wp_region_sets_lit (fun S X => Blk X W.heap.size (instV ⟨op, form, frm, kind, rd, rs1, rs2, rs3, rm, imm, csr⟩) 27 ∧ Blk X w1.heap.size (instV ⟨0, 0, 0, 0, rd, rs1, rs2, 0, rm, 0, 0⟩) 27 ∧ Blk X (W.heap.size + 1) (bif S 13 then instV ⟨0, 0, 0, 0, rd, rs1, rs2, 0, rm, 0, 0⟩ else instV zeroI) 27 ∧ Below W.heap.size W X) (by kernel_rfl) (by kernel_rfl) ⟨KI.out, KW.out, KO.out, KB.out.drew⟩ ?_
    obtain ⟨U, V, hV, hU⟩ := worlds (fun S X => Blk X W.heap.size (instV ⟨op, form, frm, kind, rd, rs1, rs2, rs3, rm, imm, csr⟩) 27 ∧ Blk X w1.heap.size (instV ⟨0, 0, 0, 0, rd, rs1, rs2, 0, rm, 0, 0⟩) 27 ∧ Blk X (W.heap.size + 1) (bif S 13 then instV ⟨0, 0, 0, 0, rd, rs1, rs2, 0, rm, 0, 0⟩ else instV zeroI) 27 ∧ Below W.heap.size W X)
    have kf : ∀ u, (V u).cell? ⟨W.heap.size, 8, none⟩ = some (.int .u8 (rm : Nat)) := fun u => by obtain ⟨S, h, _⟩ := hV u; exact h.cell 8
    replace hV := Lib.hid hV
    replace hU := Lib.hid hU
    refine sets_load_blk rfl (fun _ _ _ h => h) _ _ rfl w1.heap.size rfl _ (instV ⟨0, 0, 0, 0, rd, rs1, rs2, 0, rm, 0, 0⟩) _ (fun S X _ h => h.2.1) Try.underlying27 rfl (by kernel_rfl) ?_
    simp only [Act.put, List.setIfInBounds_toArray, List.set_cons_succ, List.set_cons_zero]
    (repeat (first | (refine sets_quiet (fun w' => ∃ u, w' = V u) hU.out rfl (fun _ _ _ h => h) rfl ?_; intro K hK; go_big_quiet_op; first | go_big_quiet_on | (refine ⟨_, fun _ => rfl, ?_⟩; go_big_quiet_on)) | (refine sets_skip rfl (fun _ _ _ h => h) ?_; simp only [Act.put, List.setIfInBounds_toArray, List.set_cons_succ, List.set_cons_zero])))
    refine sets_call (.bool true) rfl 91 [_] _ rfl Try.f91 Try.func91 (by kernel_rfl) (by kernel_rfl) [_] rfl (fun S X a1 a2 a3 => ?_) ?_
    · refine (CM.out X).mono ?_
      rintro e X2 ⟨rfl, rfl⟩
      exact ⟨rfl, a3⟩
    simp only [Act.put, List.setIfInBounds_toArray, List.set_cons_succ, List.set_cons_zero]
    (repeat (first | (refine sets_quiet (fun w' => ∃ u, w' = V u) hU.out rfl (fun _ _ _ h => h) rfl ?_; intro K hK; go_big_quiet_op; first | go_big_quiet_on | (refine ⟨_, fun _ => rfl, ?_⟩; go_big_quiet_on)) | (refine sets_skip rfl (fun _ _ _ h => h) ?_; simp only [Act.put, List.setIfInBounds_toArray, List.set_cons_succ, List.set_cons_zero])))
    refine sets_store_blk rfl _ _ _ rfl rfl (W.heap.size + 1) (instV ⟨0, 0, 0, 0, rd, rs1, rs2, 0, rm, 0, 0⟩) rfl rfl 27 (by kernel_rfl) (by simp [Value.oneCell']) ?_ ?_
    · rintro S X a1 _ _ ⟨i1, i2, i3, i4⟩
      refine ⟨⟨_, i3, by cases S 13 <;> rfl⟩, i1.rowOther _ (by omega), i2.rowOther _ (by omega), i3.row _, below_setRow i4 (by omega) _⟩
    (repeat (first | (refine sets_quiet (fun w' => ∃ u, w' = V u) hU.out rfl (fun _ _ _ h => h) rfl ?_; intro K hK; go_big_quiet_op; first | go_big_quiet_on | (refine ⟨_, fun _ => rfl, ?_⟩; go_big_quiet_on)) | (refine sets_skip rfl (fun _ _ _ h => h) ?_; simp only [Act.put, List.setIfInBounds_toArray, List.set_cons_succ, List.set_cons_zero])))
    rintro S X hS ⟨i1, i2, i3, i4⟩
    rw [show S 13 = true from hS 13 (by decide), cond_true] at i3
    clear hU hV kf
    go_wp2
    exact bodyPost_ret (results_c2 rfl _ _ (W.heap.size + 1) _ _ _ rfl i3 Try.underlying27 rfl (by kernel_rfl)) rfl ⟨z, by rw [HC.out]; rfl, fun _ => (by rw [HVV.out]; exact HZZ.out), HZ2.out, i4⟩
abbrev own9 (x : I11) : I11 := ⟨0, 0, 0, 0, x.rd, x.rs1, x.rs2, x.rs3, x.rm, 0, 0⟩
abbrev may9 (x : I11) : Bool := may4 x && decide (x.rs3 < 32)
abbrev V9 (x : I11) : Nat := V4 x + 134217728 * x.rs3
theorem lay9_c (W : World) (c c' c2 : Nat) (x : I11) (h1 : x.rd < 256) (h2 : x.rs1 < 256) (h3 : x.rs2 < 256) (h4 : x.rs3 < 256) (h5 : x.rm < 256) (h6 : x.csr < 256) (h7 : -32768 ≤ x.imm ∧ x.imm ≤ 32767) (hc : W.cell? ⟨c, 0, none⟩ = some (.func (.func 93) #[] #[.pointer (some ⟨c', 0, none⟩)])) (hc' : W.cell? ⟨c', 0, none⟩ = some (.func (.func 92) #[] #[.pointer (some ⟨c2, 0, none⟩)])) (hc2 : W.cell? ⟨c2, 0, none⟩ = some (.func (.func 89) #[] #[])) : Calls Try.prog 98 #[.agg (instV x), .pointer (some ⟨c, 0, none⟩)] W (LayP W (own9 x) (may9 x) (V9 x)) := by
  have C1 : Hid (∀ Y, Below W.heap.size W Y → Calls Try.prog 93 #[.agg (instV x), .pointer (some ⟨c', 0, none⟩)] Y (LayP Y (own4 x) (may4 x) (V4 x))) := Lib.hid fun Y hb => lay4_c Y c' c2 x h1 h2 h3 h4 h5 h6 h7 (cell_later' hb hc') (cell_later' hb hc2)
  have HV : Hid (may4 x = true → V4 x / 134217728 % 32 = 0 ∧ V4 x < 4294967296) := Lib.hid (fun h => by
    simp only [may4, may3, may1, Bool.and_eq_true, decide_eq_true_eq] at h
    simp only [V4, V3, V1]
    have hm := modeB_lt h.2; omega)
  obtain ⟨op, form, frm, kind, rd, rs1, rs2, rs3, rm, imm, csr⟩ := x
  simp only [] at h1 h2 h3 h4 h5 h6 h7
  obtain ⟨m0, hm0⟩ : ∃ m0, may4 ⟨op, form, frm, kind, rd, rs1, rs2, rs3, rm, imm, csr⟩ = m0 := ⟨_, rfl⟩
  obtain ⟨v0, hv0⟩ : ∃ v0, V4 ⟨op, form, frm, kind, rd, rs1, rs2, rs3, rm, imm, csr⟩ = v0 := ⟨_, rfl⟩
  have HMAY : Hid (may9 ⟨op, form, frm, kind, rd, rs1, rs2, rs3, rm, imm, csr⟩ = (m0 && decide (rs3 < 32))) := Lib.hid (by rw [← hm0])
  have HVV : Hid (V9 ⟨op, form, frm, kind, rd, rs1, rs2, rs3, rm, imm, csr⟩ = v0 + 134217728 * rs3) := Lib.hid (by rw [← hv0])
  rw [hm0, hv0] at C1 HV
  clear hm0 hv0
  have kI := (Blk.new W (instV ⟨op, form, frm, kind, rd, rs1, rs2, rs3, rm, imm, csr⟩) 27).alloc (.cells (instV zeroI) 27)
  have kO := Blk.new (W.alloc (.cells (instV ⟨op, form, frm, kind, rd, rs1, rs2, rs3, rm, imm, csr⟩) 27)) (instV zeroI) 27
  have kB := ((Below.refl W.heap.size W).alloc (Nat.le_refl _) (.cells (instV ⟨op, form, frm, kind, rd, rs1, rs2, rs3, rm, imm, csr⟩) 27)).alloc (by simp) (.cells (instV zeroI) 27)
  rw [World.size_alloc] at kO
  obtain ⟨A, hA⟩ : ∃ A, ((W.alloc (.cells (instV ⟨op, form, frm, kind, rd, rs1, rs2, rs3, rm, imm, csr⟩) 27)).alloc (.cells (instV zeroI) 27)) = A := ⟨_, rfl⟩
  rw [hA] at kI kO kB
  have hcA := cell_later' kB hc
  have CA := Lib.hid (C1.out A kB)
  have HA := Lib.hid hA
  have KI := Lib.hid kI
  have KO := Lib.hid kO
  have KB := Lib.hid kB
  clear hA kI kO kB hc C1 hc' hc2
  go_enter Try.func98, Try.ntmps98
  go_upto_region 1 with fail
  show Code.wp _ _ _ _ ((W.alloc (.cells (instV ⟨op, form, frm, kind, rd, rs1, rs2, rs3, rm, imm, csr⟩) 27)).alloc (.cells (instV zeroI) 27))
  rw [HA.out]
  go_upto_region 3 with (first
    | (refine wpList_load_blk rfl _ _ rfl _ rfl _ _ _ KI.out Try.underlying27 rfl (by kernel_rfl) ?_)
    | (go_at_call 93; (with_reducible refine CA.out.mono ?_); rintro e w1 ⟨z0, rfl, hz0, hz32, hb1⟩; clear CA; have cf : w1.cell? ⟨W.heap.size, 7, none⟩ = some (.int .u8 (rs3 : Nat)) := (KI.out.call hb1).cell 7; have cf2 : ∀ o, (w1.alloc o).cell? ⟨W.heap.size, 7, none⟩ = some (.int .u8 (rs3 : Nat)) := fun o => ((KI.out.call hb1).alloc o).cell 7))
  have kI := (KI.out.call hb1).alloc (.cells (instV ⟨0, 0, 0, 0, rd, rs1, rs2, rs3, rm, 0, 0⟩) 27)
  have kO := (KO.out.call hb1).alloc (.cells (instV ⟨0, 0, 0, 0, rd, rs1, rs2, rs3, rm, 0, 0⟩) 27)
  have kW := Blk.new w1 (instV ⟨0, 0, 0, 0, rd, rs1, rs2, rs3, rm, 0, 0⟩) 27
  have hs1 : W.heap.size + 1 < w1.heap.size := (KO.out.call hb1).lt
  have kB := (KB.out.trans (hb1.mono KB.out.size)).alloc (by omega) (.cells (instV ⟨0, 0, 0, 0, rd, rs1, rs2, rs3, rm, 0, 0⟩) 27)
  show Code.wp _ _ _ _ (w1.alloc (.cells (instV ⟨0, 0, 0, 0, rd, rs1, rs2, rs3, rm, 0, 0⟩) 27))
  obtain ⟨A2, hA2⟩ : ∃ A2, w1.alloc (.cells (instV ⟨0, 0, 0, 0, rd, rs1, rs2, rs3, rm, 0, 0⟩) 27) = A2 := ⟨_, rfl⟩
  rw [hA2] at kI kO kW kB ⊢
  clear hA2 cf cf2 hb1 HA KI KO KB hcA
  obtain ⟨z, hz⟩ : ∃ z, z0 ||| rs3 * 134217728 % 4294967296 = z := ⟨_, rfl⟩
  have hz2 : z < 4294967296 := by rw [← hz]; exact or_lt32 hz32 (Nat.mod_lt _ (by decide))
  have e1 : bits .or .u32 (z0 : Int) ((rs3 : Int) * 134217728 % 4294967296) = ((z : Nat) : Int) := by
    have h1 : (rs3 : Int) * 134217728 % 4294967296 = ((rs3 * 134217728 % 4294967296 : Nat) : Int) := by omega
    rw [h1, or32 _ _ hz32 (Nat.mod_lt _ (by decide)), hz]
  have e2 : rs3 < 32 → bits .or .u32 (z0 : Int) ((rs3 : Int) * 134217728) = ((z : Nat) : Int) := fun hl => by
    have h1 : (rs3 : Int) * 134217728 = ((rs3 * 134217728 % 4294967296 : Nat) : Int) := by omega
    rw [h1, or32 _ _ hz32 (Nat.mod_lt _ (by decide)), hz]
  have HZ : Hid (m0 = true → rs3 < 32 → z = v0 + 134217728 * rs3) := Lib.hid (fun hm hl => by
    have a := HV.out hm
    rw [← hz, Nat.mod_eq_of_lt (by omega), hz0 hm, or_sum 27 5 a.1 hl]
    omega)
  have HZ2 := Lib.hid hz2
  clear hz hz2 hz0 HV
  have KI := Lib.hid kI
  have KO := Lib.hid kO
  have KW := Lib.hid kW
  have KB := Lib.hid kB
  clear kI kO kW kB
  rcases (by cases m0 <;> simp <;> omega : (m0 = false) ∨ (m0 = true ∧ ¬ rs3 < 32) ∨ (m0 = true ∧ rs3 < 32)) with hcase | hcase | hcase
  · skip
    have hm : m0 = false := hcase
    have HC : Hid (may9 ⟨op, form, frm, kind, rd, rs1, rs2, rs3, rm, imm, csr⟩ = false) := Lib.hid (by rw [HMAY.out, hm]; rfl)
    clear hcase
    subst hm
    refine wp_region_sets_lit (fun S X => Blk X W.heap.size (instV ⟨op, form, frm, kind, rd, rs1, rs2, rs3, rm, imm, csr⟩) 27 ∧ Blk X w1.heap.size (instV ⟨0, 0, 0, 0, rd, rs1, rs2, rs3, rm, 0, 0⟩) 27 ∧ Blk X (W.heap.size + 1) (bif S 13 then instV ⟨0, 0, 0, 0, rd, rs1, rs2, rs3, rm, 0, 0⟩ else instV zeroI) 27 ∧ Below W.heap.size W X) (by kernel_rfl) (by kernel_rfl) ⟨KI.out, KW.out, KO.out, KB.out.drew⟩ ?_
    obtain ⟨U, V, hV, hU⟩ := worlds (fun S X => Blk X W.heap.size (instV ⟨op, form, frm, kind, rd, rs1, rs2, rs3, rm, imm, csr⟩) 27 ∧ Blk X w1.heap.size (instV ⟨0, 0, 0, 0, rd, rs1, rs2, rs3, rm, 0, 0⟩) 27 ∧ Blk X (W.heap.size + 1) (bif S 13 then instV ⟨0, 0, 0, 0, rd, rs1, rs2, rs3, rm, 0, 0⟩ else instV zeroI) 27 ∧ Below W.heap.size W X)
    have kf : ∀ u, (V u).cell? ⟨W.heap.size, 7, none⟩ = some (.int .u8 (rs3 : Nat)) := fun u => by obtain ⟨S, h, _⟩ := hV u; exact h.cell 7
    replace hV := Lib.hid hV
    replace hU := Lib.hid hU
    refine sets_load_blk rfl (fun _ _ _ h => h) _ _ rfl w1.heap.size rfl _ (instV ⟨0, 0, 0, 0, rd, rs1, rs2, rs3, rm, 0, 0⟩) _ (fun S X _ h => h.2.1) Try.underlying27 rfl (by kernel_rfl) ?_
    simp only [Act.put, List.setIfInBounds_toArray, List.set_cons_succ, List.set_cons_zero]
    (repeat (first | (refine sets_quiet (fun w' => ∃ u, w' = V u) hU.out rfl (fun _ _ _ h => h) rfl ?_; intro K hK; go_big_quiet_op; first | go_big_quiet_on | (refine ⟨_, fun _ => rfl, ?_⟩; go_big_quiet_on)) | (refine sets_skip rfl (fun _ _ _ h => h) ?_; simp only [Act.put, List.setIfInBounds_toArray, List.set_cons_succ, List.set_cons_zero])))
    refine sets_store_blk rfl _ _ _ rfl rfl (W.heap.size + 1) (instV ⟨0, 0, 0, 0, rd, rs1, rs2, rs3, rm, 0, 0⟩) rfl rfl 27 (by kernel_rfl) (by simp [Value.oneCell']) ?_ ?_
    · rintro S X a1 _ _ ⟨i1, i2, i3, i4⟩
      refine ⟨⟨_, i3, by cases S 13 <;> rfl⟩, i1.rowOther _ (by omega), i2.rowOther _ (by omega), i3.row _, below_setRow i4 (by omega) _⟩
    (repeat (first | (refine sets_quiet (fun w' => ∃ u, w' = V u) hU.out rfl (fun _ _ _ h => h) rfl ?_; intro K hK; go_big_quiet_op; first | go_big_quiet_on | (refine ⟨_, fun _ => rfl, ?_⟩; go_big_quiet_on)) | (refine sets_skip rfl (fun _ _ _ h => h) ?_; simp only [Act.put, List.setIfInBounds_toArray, List.set_cons_succ, List.set_cons_zero])))
    rintro S X hS ⟨i1, i2, i3, i4⟩
    rw [show S 13 = true from hS 13 (by decide), cond_true] at i3
    clear hU hV kf
    go_wp2
    exact bodyPost_ret (results_c2 rfl _ _ (W.heap.size + 1) _ _ _ rfl i3 Try.underlying27 rfl (by kernel_rfl)) rfl ⟨z, by rw [HC.out]; rfl, fun h => (by rw [HC.out] at h; cases h), HZ2.out, i4⟩
  · skip
    have hm : m0 = true := hcase.1
    have HC : Hid (may9 ⟨op, form, frm, kind, rd, rs1, rs2, rs3, rm, imm, csr⟩ = false) := Lib.hid (by rw [HMAY.out, hm, decide_eq_false hcase.2]; rfl)
    have y0 : decide ((rs3 : Int) < 32) = false := decide_eq_false (by omega)
    clear hcase
    subst hm
    refine wp_region_sets_lit (fun S X => Blk X W.heap.size (instV ⟨op, form, frm, kind, rd, rs1, rs2, rs3, rm, imm, csr⟩) 27 ∧ Blk X w1.heap.size (instV ⟨0, 0, 0, 0, rd, rs1, rs2, rs3, rm, 0, 0⟩) 27 ∧ Blk X (W.heap.size + 1) (bif S 13 then instV ⟨0, 0, 0, 0, rd, rs1, rs2, rs3, rm, 0, 0⟩ else instV zeroI) 27 ∧ Below W.heap.size W X) (by kernel_rfl) (by kernel_rfl) ⟨KI.out, KW.out, KO.out, KB.out.drew⟩ ?_
    obtain ⟨U, V, hV, hU⟩ := worlds (fun S X => Blk X W.heap.size (instV ⟨op, form, frm, kind, rd, rs1, rs2, rs3, rm, imm, csr⟩) 27 ∧ Blk X w1.heap.size (instV ⟨0, 0, 0, 0, rd, rs1, rs2, rs3, rm, 0, 0⟩) 27 ∧ Blk X (W.heap.size + 1) (bif S 13 then instV ⟨0, 0, 0, 0, rd, rs1, rs2, rs3, rm, 0, 0⟩ else instV zeroI) 27 ∧ Below W.heap.size W X)
    have kf : ∀ u, (V u).cell? ⟨W.heap.size, 7, none⟩ = some (.int .u8 (rs3 : Nat)) := fun u => by obtain ⟨S, h, _⟩ := hV u; exact h.cell 7
    replace hV := Lib.hid hV
    replace hU := Lib.hid hU
    refine sets_load_blk rfl (fun _ _ _ h => h) _ _ rfl w1.heap.size rfl _ (instV ⟨0, 0, 0, 0, rd, rs1, rs2, rs3, rm, 0, 0⟩) _ (fun S X _ h => h.2.1) Try.underlying27 rfl (by kernel_rfl) ?_
    simp only [Act.put, List.setIfInBounds_toArray, List.set_cons_succ, List.set_cons_zero]
    (repeat (first | (refine sets_quiet (fun w' => ∃ u, w' = V u) hU.out rfl (fun _ _ _ h => h) rfl ?_; intro K hK; go_big_quiet_op; first | go_big_quiet_on | (refine ⟨_, fun _ => rfl, ?_⟩; go_big_quiet_on)) | (refine sets_skip rfl (fun _ _ _ h => h) ?_; simp only [Act.put, List.setIfInBounds_toArray, List.set_cons_succ, List.set_cons_zero])))
    refine sets_store_blk rfl _ _ _ rfl rfl (W.heap.size + 1) (instV ⟨0, 0, 0, 0, rd, rs1, rs2, rs3, rm, 0, 0⟩) rfl rfl 27 (by kernel_rfl) (by simp [Value.oneCell']) ?_ ?_
    · rintro S X a1 _ _ ⟨i1, i2, i3, i4⟩
      refine ⟨⟨_, i3, by cases S 13 <;> rfl⟩, i1.rowOther _ (by omega), i2.rowOther _ (by omega), i3.row _, below_setRow i4 (by omega) _⟩
    (repeat (first | (refine sets_quiet (fun w' => ∃ u, w' = V u) hU.out rfl (fun _ _ _ h => h) rfl ?_; intro K hK; go_big_quiet_op; first | go_big_quiet_on | (refine ⟨_, fun _ => rfl, ?_⟩; go_big_quiet_on)) | (refine sets_skip rfl (fun _ _ _ h => h) ?_; simp only [Act.put, List.setIfInBounds_toArray, List.set_cons_succ, List.set_cons_zero])))
    rintro S X hS ⟨i1, i2, i3, i4⟩
    rw [show S 13 = true from hS 13 (by decide), cond_true] at i3
    clear hU hV kf
    go_wp2
    exact bodyPost_ret (results_c2 rfl _ _ (W.heap.size + 1) _ _ _ rfl i3 Try.underlying27 rfl (by kernel_rfl)) rfl ⟨z, by rw [HC.out]; rfl, fun h => (by rw [HC.out] at h; cases h), HZ2.out, i4⟩
  · skip
    have hm : m0 = true := hcase.1
    have HC : Hid (may9 ⟨op, form, frm, kind, rd, rs1, rs2, rs3, rm, imm, csr⟩ = true) := Lib.hid (by rw [HMAY.out, hm, decide_eq_true hcase.2]; rfl)
    have y0 : decide ((rs3 : Int) < 32) = true := decide_eq_true (by omega)
    have e3 := e2 hcase.2
    have HZZ : Hid (z = v0 + 134217728 * rs3) := Lib.hid (HZ.out hm hcase.2)
    clear hcase
    subst hm
    refine wp_region_sets_lit (fun S X => Blk X W.heap.size (instV ⟨op, form, frm, kind, rd, rs1, rs2, rs3, rm, imm, csr⟩) 27 ∧ Blk X w1.heap.size (instV ⟨0, 0, 0, 0, rd, rs1, rs2, rs3, rm, 0, 0⟩) 27 ∧ Blk X (W.heap.size + 1) (bif S 13 then instV ⟨0, 0, 0, 0, rd, rs1, rs2, rs3, rm, 0, 0⟩ else instV zeroI) 27 ∧ Below W.heap.size W X) (by kernel_rfl) (by kernel_rfl) ⟨KI.out, KW.out, KO.out, KB.out.drew⟩ ?_
    obtain ⟨U, V, hV, hU⟩ := worlds (fun S X => Blk X W.heap.size (instV ⟨op, form, frm, kind, rd, rs1, rs2, rs3, rm, imm, csr⟩) 27 ∧ Blk X w1.heap.size (instV ⟨0, 0, 0, 0, rd, rs1, rs2, rs3, rm, 0, 0⟩) 27 ∧ Blk X (W.heap.size + 1) (bif S 13 then instV ⟨0, 0, 0, 0, rd, rs1, rs2, rs3, rm, 0, 0⟩ else instV zeroI) 27 ∧ Below W.heap.size W X)
    have kf : ∀ u, (V u).cell? ⟨W.heap.size, 7, none⟩ = some (.int .u8 (rs3 : Nat)) := fun u => by obtain ⟨S, h, _⟩ := hV u; exact h.cell 7
    replace hV := Lib.hid hV
    replace hU := Lib.hid hU
    refine sets_load_blk rfl (fun _ _ _ h => h) _ _ rfl w1.heap.size rfl _ (instV ⟨0, 0, 0, 0, rd, rs1, rs2, rs3, rm, 0, 0⟩) _ (fun S X _ h => h.2.1) Try.underlying27 rfl (by kernel_rfl) ?_
    simp only [Act.put, List.setIfInBounds_toArray, List.set_cons_succ, List.set_cons_zero]
    (repeat (first | (refine sets_quiet (fun w' => ∃ u, w' = V u) hU.out rfl (fun _ _ _ h => h) rfl ?_; intro K hK; go_big_quiet_op; first | go_big_quiet_on | (refine ⟨_, fun _ => rfl, ?_⟩; go_big_quiet_on)) | (refine sets_skip rfl (fun _ _ _ h => h) ?_; simp only [Act.put, List.setIfInBounds_toArray, List.set_cons_succ, List.set_cons_zero])))
    refine sets_store_blk rfl _ _ _ rfl rfl (W.heap.size + 1) (instV ⟨0, 0, 0, 0, rd, rs1, rs2, rs3, rm, 0, 0⟩) rfl rfl 27 (by kernel_rfl) (by simp [Value.oneCell']) ?_ ?_
    · rintro S X a1 _ _ ⟨i1, i2, i3, i4⟩
      refine ⟨⟨_, i3, by cases S 13 <;> rfl⟩, i1.rowOther _ (by omega), i2.rowOther _ (by omega), i3.row _, below_setRow i4 (by omega) _⟩
    (repeat (first | (refine sets_quiet (fun w' => ∃ u, w' = V u) hU.out rfl (fun _ _ _ h => h) rfl ?_; intro K hK; go_big_quiet_op; first | go_big_quiet_on | (refine ⟨_, fun _ => rfl, ?_⟩; go_big_quiet_on)) | (refine sets_skip rfl (fun _ _ _ h => h) ?_; simp only [Act.put, List.setIfInBounds_toArray, List.set_cons_succ, List.set_cons_zero])))
    rintro S X hS ⟨i1, i2, i3, i4⟩
    rw [show S 13 = true from hS 13 (by decide), cond_true] at i3
    clear hU hV kf
    go_wp2
    exact bodyPost_ret (results_c2 rfl _ _ (W.heap.size + 1) _ _ _ rfl i3 Try.underlying27 rfl (by kernel_rfl)) rfl ⟨z, by rw [HC.out]; rfl, fun _ => (by rw [HVV.out]; exact HZZ.out), HZ2.out, i4⟩
abbrev own6 (x : I11) : I11 := ⟨0, 0, 0, 0, x.rd, x.rs1, 0, 0, 0, 0, x.csr⟩
abbrev may6 (x : I11) : Bool := may1 x && (decide (1 ≤ x.csr) && decide (x.csr ≤ 3))
abbrev V6 (x : I11) : Nat := V1 x + 1048576 * x.csr
theorem lay6_c (W : World) (c : Nat) (x : I11) (h1 : x.rd < 256) (h2 : x.rs1 < 256) (h3 : x.rs2 < 256) (h4 : x.rs3 < 256) (h5 : x.rm < 256) (h6 : x.csr < 256) (h7 : -32768 ≤ x.imm ∧ x.imm ≤ 32767) (hc : W.cell? ⟨c, 0, none⟩ = some (.func (.func 89) #[] #[])) : Calls Try.prog 95 #[.agg (instV x), .pointer (some ⟨c, 0, none⟩)] W (LayP W (own6 x) (may6 x) (V6 x)) := by
  have C1 : Hid (∀ Y, Below W.heap.size W Y → Calls Try.prog 89 #[.agg (instV x)] Y (LayP Y (ownRd x) (may1 x) (V1 x))) := Lib.hid fun Y hb => lay1_c Y x h1 h2
  have HV : Hid (may1 x = true → V1 x / 1048576 % 4 = 0 ∧ V1 x < 4294967296) := Lib.hid (fun h => by
    simp only [may1, Bool.and_eq_true, decide_eq_true_eq] at h
    simp only [V1]
    omega)
  obtain ⟨op, form, frm, kind, rd, rs1, rs2, rs3, rm, imm, csr⟩ := x
  simp only [] at h1 h2 h3 h4 h5 h6 h7
  obtain ⟨m0, hm0⟩ : ∃ m0, may1 ⟨op, form, frm, kind, rd, rs1, rs2, rs3, rm, imm, csr⟩ = m0 := ⟨_, rfl⟩
  obtain ⟨v0, hv0⟩ : ∃ v0, V1 ⟨op, form, frm, kind, rd, rs1, rs2, rs3, rm, imm, csr⟩ = v0 := ⟨_, rfl⟩
  have HMAY : Hid (may6 ⟨op, form, frm, kind, rd, rs1, rs2, rs3, rm, imm, csr⟩ = (m0 && (decide (1 ≤ csr) && decide (csr ≤ 3)))) := Lib.hid (by rw [← hm0])
  have HVV : Hid (V6 ⟨op, form, frm, kind, rd, rs1, rs2, rs3, rm, imm, csr⟩ = v0 + 1048576 * csr) := Lib.hid (by rw [← hv0])
  rw [hm0, hv0] at C1 HV
  clear hm0 hv0
  have kI := (Blk.new W (instV ⟨op, form, frm, kind, rd, rs1, rs2, rs3, rm, imm, csr⟩) 27).alloc (.cells (instV zeroI) 27)
  have kO := Blk.new (W.alloc (.cells (instV ⟨op, form, frm, kind, rd, rs1, rs2, rs3, rm, imm, csr⟩) 27)) (instV zeroI) 27
  have kB := ((Below.refl W.heap.size W).alloc (Nat.le_refl _) (.cells (instV ⟨op, form, frm, kind, rd, rs1, rs2, rs3, rm, imm, csr⟩) 27)).alloc (by simp) (.cells (instV zeroI) 27)
  rw [World.size_alloc] at kO
  obtain ⟨A, hA⟩ : ∃ A, ((W.alloc (.cells (instV ⟨op, form, frm, kind, rd, rs1, rs2, rs3, rm, imm, csr⟩) 27)).alloc (.cells (instV zeroI) 27)) = A := ⟨_, rfl⟩
  rw [hA] at kI kO kB
  have hcA := cell_later' kB hc
  have CA := Lib.hid (C1.out A kB)
  have HA := Lib.hid hA
  have KI := Lib.hid kI
  have KO := Lib.hid kO
  have KB := Lib.hid kB
  clear hA kI kO kB hc C1
  go_enter Try.func95, Try.ntmps95
  go_upto_region 1 with fail
  show Code.wp _ _ _ _ ((W.alloc (.cells (instV ⟨op, form, frm, kind, rd, rs1, rs2, rs3, rm, imm, csr⟩) 27)).alloc (.cells (instV zeroI) 27))
  rw [HA.out]
  go_upto_region 3 with (first
    | (refine wpList_load_blk rfl _ _ rfl _ rfl _ _ _ KI.out Try.underlying27 rfl (by kernel_rfl) ?_)
    | (go_at_call 89; (with_reducible refine CA.out.mono ?_); rintro e w1 ⟨z0, rfl, hz0, hz32, hb1⟩; clear CA; have cf : w1.cell? ⟨W.heap.size, 10, none⟩ = some (.int .u8 (csr : Nat)) := (KI.out.call hb1).cell 10; have cf2 : ∀ o, (w1.alloc o).cell? ⟨W.heap.size, 10, none⟩ = some (.int .u8 (csr : Nat)) := fun o => ((KI.out.call hb1).alloc o).cell 10))
  have kI := (KI.out.call hb1).alloc (.cells (instV ⟨0, 0, 0, 0, rd, rs1, 0, 0, 0, 0, csr⟩) 27)
  have kO := (KO.out.call hb1).alloc (.cells (instV ⟨0, 0, 0, 0, rd, rs1, 0, 0, 0, 0, csr⟩) 27)
  have kW := Blk.new w1 (instV ⟨0, 0, 0, 0, rd, rs1, 0, 0, 0, 0, csr⟩) 27
  have hs1 : W.heap.size + 1 < w1.heap.size := (KO.out.call hb1).lt
  have kB := (KB.out.trans (hb1.mono KB.out.size)).alloc (by omega) (.cells (instV ⟨0, 0, 0, 0, rd, rs1, 0, 0, 0, 0, csr⟩) 27)
  show Code.wp _ _ _ _ (w1.alloc (.cells (instV ⟨0, 0, 0, 0, rd, rs1, 0, 0, 0, 0, csr⟩) 27))
  obtain ⟨A2, hA2⟩ : ∃ A2, w1.alloc (.cells (instV ⟨0, 0, 0, 0, rd, rs1, 0, 0, 0, 0, csr⟩) 27) = A2 := ⟨_, rfl⟩
  rw [hA2] at kI kO kW kB ⊢
  clear hA2 cf cf2 hb1 HA KI KO KB hcA
  obtain ⟨z, hz⟩ : ∃ z, z0 ||| csr * 1048576 % 4294967296 = z := ⟨_, rfl⟩
  have hz2 : z < 4294967296 := by rw [← hz]; exact or_lt32 hz32 (Nat.mod_lt _ (by decide))
  have e1 : bits .or .u32 (z0 : Int) ((csr : Int) * 1048576) = ((z : Nat) : Int) := by
    have h1 : (csr : Int) * 1048576 = ((csr * 1048576 % 4294967296 : Nat) : Int) := by omega
    rw [h1, or32 _ _ hz32 (Nat.mod_lt _ (by decide)), hz]
  have HZ : Hid (m0 = true → csr < 4 → z = v0 + 1048576 * csr) := Lib.hid (fun hm hl => by
    have a := HV.out hm
    rw [← hz, Nat.mod_eq_of_lt (by omega), hz0 hm, or_sum 20 2 a.1 hl]
    omega)
  have HZ2 := Lib.hid hz2
  clear hz hz2 hz0 HV
  have KI := Lib.hid kI
  have KO := Lib.hid kO
  have KW := Lib.hid kW
  have KB := Lib.hid kB
  clear kI kO kW kB
  rcases (by cases m0 <;> simp <;> omega : (m0 = false) ∨ (m0 = true ∧ csr < 1) ∨ (m0 = true ∧ 1 ≤ csr ∧ ¬ csr ≤ 3) ∨ (m0 = true ∧ 1 ≤ csr ∧ csr ≤ 3)) with hcase | hcase | hcase | hcase
  · skip
    have hm : m0 = false := hcase
    have HC : Hid (may6 ⟨op, form, frm, kind, rd, rs1, rs2, rs3, rm, imm, csr⟩ = false) := Lib.hid (by rw [HMAY.out, hm]; rfl)
    clear hcase
    subst hm
    refine wp_region_sets_lit (fun S X => Blk X W.heap.size (instV ⟨op, form, frm, kind, rd, rs1, rs2, rs3, rm, imm, csr⟩) 27 ∧ Blk X w1.heap.size (instV ⟨0, 0, 0, 0, rd, rs1, 0, 0, 0, 0, csr⟩) 27 ∧ Blk X (W.heap.size + 1) (bif S 18 then instV ⟨0, 0, 0, 0, rd, rs1, 0, 0, 0, 0, csr⟩ else instV zeroI) 27 ∧ Below W.heap.size W X) (by kernel_rfl) (by kernel_rfl) ⟨KI.out, KW.out, KO.out, KB.out.drew⟩ ?_
    obtain ⟨U, V, hV, hU⟩ := worlds (fun S X => Blk X W.heap.size (instV ⟨op, form, frm, kind, rd, rs1, rs2, rs3, rm, imm, csr⟩) 27 ∧ Blk X w1.heap.size (instV ⟨0, 0, 0, 0, rd, rs1, 0, 0, 0, 0, csr⟩) 27 ∧ Blk X (W.heap.size + 1) (bif S 18 then instV ⟨0, 0, 0, 0, rd, rs1, 0, 0, 0, 0, csr⟩ else instV zeroI) 27 ∧ Below W.heap.size W X)
    have kf : ∀ u, (V u).cell? ⟨W.heap.size, 10, none⟩ = some (.int .u8 (csr : Nat)) := fun u => by obtain ⟨S, h, _⟩ := hV u; exact h.cell 10
    replace hV := Lib.hid hV
    replace hU := Lib.hid hU
    refine sets_load_blk rfl (fun _ _ _ h => h) _ _ rfl w1.heap.size rfl _ (instV ⟨0, 0, 0, 0, rd, rs1, 0, 0, 0, 0, csr⟩) _ (fun S X _ h => h.2.1) Try.underlying27 rfl (by kernel_rfl) ?_
    simp only [Act.put, List.setIfInBounds_toArray, List.set_cons_succ, List.set_cons_zero]
    (repeat (first | (refine sets_quiet (fun w' => ∃ u, w' = V u) hU.out rfl (fun _ _ _ h => h) rfl ?_; intro K hK; go_big_quiet_op; first | go_big_quiet_on | (refine ⟨_, fun _ => rfl, ?_⟩; go_big_quiet_on)) | (refine sets_skip rfl (fun _ _ _ h => h) ?_; simp only [Act.put, List.setIfInBounds_toArray, List.set_cons_succ, List.set_cons_zero])))
    refine sets_store_blk rfl _ _ _ rfl rfl (W.heap.size + 1) (instV ⟨0, 0, 0, 0, rd, rs1, 0, 0, 0, 0, csr⟩) rfl rfl 27 (by kernel_rfl) (by simp [Value.oneCell']) ?_ ?_
    · rintro S X a1 _ _ ⟨i1, i2, i3, i4⟩
      refine ⟨⟨_, i3, by cases S 18 <;> rfl⟩, i1.rowOther _ (by omega), i2.rowOther _ (by omega), i3.row _, below_setRow i4 (by omega) _⟩
    (repeat (first | (refine sets_quiet (fun w' => ∃ u, w' = V u) hU.out rfl (fun _ _ _ h => h) rfl ?_; intro K hK; go_big_quiet_op; first | go_big_quiet_on | (refine ⟨_, fun _ => rfl, ?_⟩; go_big_quiet_on)) | (refine sets_skip rfl (fun _ _ _ h => h) ?_; simp only [Act.put, List.setIfInBounds_toArray, List.set_cons_succ, List.set_cons_zero])))
    rintro S X hS ⟨i1, i2, i3, i4⟩
    rw [show S 18 = true from hS 18 (by decide), cond_true] at i3
    clear hU hV kf
    go_wp2
    exact bodyPost_ret (results_c2 rfl _ _ (W.heap.size + 1) _ _ _ rfl i3 Try.underlying27 rfl (by kernel_rfl)) rfl ⟨z, by rw [HC.out]; rfl, fun h => (by rw [HC.out] at h; cases h), HZ2.out, i4⟩
  · skip
    have hm : m0 = true := hcase.1
    have HC : Hid (may6 ⟨op, form, frm, kind, rd, rs1, rs2, rs3, rm, imm, csr⟩ = false) := Lib.hid (by rw [HMAY.out, hm]; simp; omega)
    have y0 : decide ((1 : Int) ≤ (csr : Int)) = false := decide_eq_false (by omega)
    clear hcase
    subst hm
    refine wp_region_sets_lit (fun S X => Blk X W.heap.size (instV ⟨op, form, frm, kind, rd, rs1, rs2, rs3, rm, imm, csr⟩) 27 ∧ Blk X w1.heap.size (instV ⟨0, 0, 0, 0, rd, rs1, 0, 0, 0, 0, csr⟩) 27 ∧ Blk X (W.heap.size + 1) (bif S 18 then instV ⟨0, 0, 0, 0, rd, rs1, 0, 0, 0, 0, csr⟩ else instV zeroI) 27 ∧ Below W.heap.size W X) (by kernel_rfl) (by kernel_rfl) ⟨KI.out, KW.out, KO.out, KB.out.drew⟩ ?_
    obtain ⟨U, V, hV, hU⟩ := worlds (fun S X => Blk X W.heap.size (instV ⟨op, form, frm, kind, rd, rs1, rs2, rs3, rm, imm, csr⟩) 27 ∧ Blk X w1.heap.size (instV ⟨0, 0, 0, 0, rd, rs1, 0, 0, 0, 0, csr⟩) 27 ∧ Blk X (W.heap.size + 1) (bif S 18 then instV ⟨0, 0, 0, 0, rd, rs1, 0, 0, 0, 0, csr⟩ else instV zeroI) 27 ∧ Below W.heap.size W X)
    have kf : ∀ u, (V u).cell? ⟨W.heap.size, 10, none⟩ = some (.int .u8 (csr : Nat)) := fun u => by obtain ⟨S, h, _⟩ := hV u; exact h.cell 10
    replace hV := Lib.hid hV
    replace hU := Lib.hid hU
    refine sets_load_blk rfl (fun _ _ _ h => h) _ _ rfl w1.heap.size rfl _ (instV ⟨0, 0, 0, 0, rd, rs1, 0, 0, 0, 0, csr⟩) _ (fun S X _ h => h.2.1) Try.underlying27 rfl (by kernel_rfl) ?_
    simp only [Act.put, List.setIfInBounds_toArray, List.set_cons_succ, List.set_cons_zero]
    (repeat (first | (refine sets_quiet (fun w' => ∃ u, w' = V u) hU.out rfl (fun _ _ _ h => h) rfl ?_; intro K hK; go_big_quiet_op; first | go_big_quiet_on | (refine ⟨_, fun _ => rfl, ?_⟩; go_big_quiet_on)) | (refine sets_skip rfl (fun _ _ _ h => h) ?_; simp only [Act.put, List.setIfInBounds_toArray, List.set_cons_succ, List.set_cons_zero])))
    refine sets_store_blk rfl _ _ _ rfl rfl (W.heap.size + 1) (instV ⟨0, 0, 0, 0, rd, rs1, 0, 0, 0, 0, csr⟩) rfl rfl 27 (by kernel_rfl) (by simp [Value.oneCell']) ?_ ?_
    · rintro S X a1 _ _ ⟨i1, i2, i3, i4⟩
      refine ⟨⟨_, i3, by cases S 18 <;> rfl⟩, i1.rowOther _ (by omega), i2.rowOther _ (by omega), i3.row _, below_setRow i4 (by omega) _⟩
    (repeat (first | (refine sets_quiet (fun w' => ∃ u, w' = V u) hU.out rfl (fun _ _ _ h => h) rfl ?_; intro K hK; go_big_quiet_op; first | go_big_quiet_on | (refine ⟨_, fun _ => rfl, ?_⟩; go_big_quiet_on)) | (refine sets_skip rfl (fun _ _ _ h => h) ?_; simp only [Act.put, List.setIfInBounds_toArray, List.set_cons_succ, List.set_cons_zero])))
    rintro S X hS ⟨i1, i2, i3, i4⟩
    rw [show S 18 = true from hS 18 (by decide), cond_true] at i3
    clear hU hV kf
    go_wp2
    exact bodyPost_ret (results_c2 rfl _ _ (W.heap.size + 1) _ _ _ rfl i3 Try.underlying27 rfl (by kernel_rfl)) rfl ⟨z, by rw [HC.out]; rfl, fun h => (by rw [HC.out] at h; cases h), HZ2.out, i4⟩
  · skip
    have hm : m0 = true := hcase.1
    have HC : Hid (may6 ⟨op, form, frm, kind, rd, rs1, rs2, rs3, rm, imm, csr⟩ = false) := Lib.hid (by rw [HMAY.out, hm]; simp; omega)
    have y0 : decide ((1 : Int) ≤ (csr : Int)) = true := decide_eq_true (by omega)
    have y1 : decide ((csr : Int) ≤ 3) = false := decide_eq_false (by omega)
    clear hcase
    subst hm
    refine wp_region_sets_lit (fun S X => Blk X W.heap.size (instV ⟨op, form, frm, kind, rd, rs1, rs2, rs3, rm, imm, csr⟩) 27 ∧ Blk X w1.heap.size (instV ⟨0, 0, 0, 0, rd, rs1, 0, 0, 0, 0, csr⟩) 27 ∧ Blk X (W.heap.size + 1) (bif S 18 then instV ⟨0, 0, 0, 0, rd, rs1, 0, 0, 0, 0, csr⟩ else instV zeroI) 27 ∧ Below W.heap.size W X) (by kernel_rfl) (by kernel_rfl) ⟨KI.out, KW.out, KO.out, KB.out.drew⟩ ?_
    obtain ⟨U, V, hV, hU⟩ := worlds (fun S X => Blk X W.heap.size (instV ⟨op, form, frm, kind, rd, rs1, rs2, rs3, rm, imm, csr⟩) 27 ∧ Blk X w1.heap.size (instV ⟨0, 0, 0, 0, rd, rs1, 0, 0, 0, 0, csr⟩) 27 ∧ Blk X (W.heap.size + 1) (bif S 18 then instV ⟨0, 0, 0, 0, rd, rs1, 0, 0, 0, 0, csr⟩ else instV zeroI) 27 ∧ Below W.heap.size W X)
    have kf : ∀ u, (V u).cell? ⟨W.heap.size, 10, none⟩ = some (.int .u8 (csr : Nat)) := fun u => by obtain ⟨S, h, _⟩ := hV u; exact h.cell 10
    replace hV := Lib.hid hV
    replace hU := Lib.hid hU
    refine sets_load_blk rfl (fun _ _ _ h => h) _ _ rfl w1.heap.size rfl _ (instV ⟨0, 0, 0, 0, rd, rs1, 0, 0, 0, 0, csr⟩) _ (fun S X _ h => h.2.1) Try.underlying27 rfl (by kernel_rfl) ?_
    simp only [Act.put, List.setIfInBounds_toArray, List.set_cons_succ, List.set_cons_zero]
    (repeat (first | (refine sets_quiet (fun w' => ∃ u, w' = V u) hU.out rfl (fun _ _ _ h => h) rfl ?_; intro K hK; go_big_quiet_op; first | go_big_quiet_on | (refine ⟨_, fun _ => rfl, ?_⟩; go_big_quiet_on)) | (refine sets_skip rfl (fun _ _ _ h => h) ?_; simp only [Act.put, List.setIfInBounds_toArray, List.set_cons_succ, List.set_cons_zero])))
    refine sets_store_blk rfl _ _ _ rfl rfl (W.heap.size + 1) (instV ⟨0, 0, 0, 0, rd, rs1, 0, 0, 0, 0, csr⟩) rfl rfl 27 (by kernel_rfl) (by simp [Value.oneCell']) ?_ ?_
    · rintro S X a1 _ _ ⟨i1, i2, i3, i4⟩
      refine ⟨⟨_, i3, by cases S 18 <;> rfl⟩, i1.rowOther _ (by omega), i2.rowOther _ (by omega), i3.row _, below_setRow i4 (by omega) _⟩
    (repeat (first | (refine sets_quiet (fun w' => ∃ u, w' = V u) hU.out rfl (fun _ _ _ h => h) rfl ?_; intro K hK; go_big_quiet_op; first | go_big_quiet_on | (refine ⟨_, fun _ => rfl, ?_⟩; go_big_quiet_on)) | (refine sets_skip rfl (fun _ _ _ h => h) ?_; simp only [Act.put, List.setIfInBounds_toArray, List.set_cons_succ, List.set_cons_zero])))
    rintro S X hS ⟨i1, i2, i3, i4⟩
    rw [show S 18 = true from hS 18 (by decide), cond_true] at i3
    clear hU hV kf
    go_wp2
    exact bodyPost_ret (results_c2 rfl _ _ (W.heap.size + 1) _ _ _ rfl i3 Try.underlying27 rfl (by kernel_rfl)) rfl ⟨z, by rw [HC.out]; rfl, fun h => (by rw [HC.out] at h; cases h), HZ2.out, i4⟩
  · skip
    have hm : m0 = true := hcase.1
    have HC : Hid (may6 ⟨op, form, frm, kind, rd, rs1, rs2, rs3, rm, imm, csr⟩ = true) := Lib.hid (by rw [HMAY.out, hm]; simp; omega)
    have y0 : decide ((1 : Int) ≤ (csr : Int)) = true := decide_eq_true (by omega)
    have y1 : decide ((csr : Int) ≤ 3) = true := decide_eq_true (by omega)
    have HZZ : Hid (z = v0 + 1048576 * csr) := Lib.hid (HZ.out hm (by omega))
    clear hcase
    subst hm
    refine wp_region_sets_lit (fun S X => Blk X W.heap.size (instV ⟨op, form, frm, kind, rd, rs1, rs2, rs3, rm, imm, csr⟩) 27 ∧ Blk X w1.heap.size (instV ⟨0, 0, 0, 0, rd, rs1, 0, 0, 0, 0, csr⟩) 27 ∧ Blk X (W.heap.size + 1) (bif S 18 then instV ⟨0, 0, 0, 0, rd, rs1, 0, 0, 0, 0, csr⟩ else instV zeroI) 27 ∧ Below W.heap.size W X) (by kernel_rfl) (by kernel_rfl) ⟨KI.out, KW.out, KO.out, KB.out.drew⟩ ?_
    obtain ⟨U, V, hV, hU⟩ := worlds (fun S X => Blk X W.heap.size (instV ⟨op, form, frm, kind, rd, rs1, rs2, rs3, rm, imm, csr⟩) 27 ∧ Blk X w1.heap.size (instV ⟨0, 0, 0, 0, rd, rs1, 0, 0, 0, 0, csr⟩) 27 ∧ Blk X (W.heap.size + 1) (bif S 18 then instV ⟨0, 0, 0, 0, rd, rs1, 0, 0, 0, 0, csr⟩ else instV zeroI) 27 ∧ Below W.heap.size W X)
    have kf : ∀ u, (V u).cell? ⟨W.heap.size, 10, none⟩ = some (.int .u8 (csr : Nat)) := fun u => by obtain ⟨S, h, _⟩ := hV u; exact h.cell 10
    replace hV := Lib.hid hV
    replace hU := Lib.hid hU
    refine sets_load_blk rfl (fun _ _ _ h => h) _ _ rfl w1.heap.size rfl _ (instV ⟨0, 0, 0, 0, rd, rs1, 0, 0, 0, 0, csr⟩) _ (fun S X _ h => h.2.1) Try.underlying27 rfl (by kernel_rfl) ?_
    simp only [Act.put, List.setIfInBounds_toArray, List.set_cons_succ, List.set_cons_zero]
    (repeat (first | (refine sets_quiet (fun w' => ∃ u, w' = V u) hU.out rfl (fun _ _ _ h => h) rfl ?_; intro K hK; go_big_quiet_op; first | go_big_quiet_on | (refine ⟨_, fun _ => rfl, ?_⟩; go_big_quiet_on)) | (refine sets_skip rfl (fun _ _ _ h => h) ?_; simp only [Act.put, List.setIfInBounds_toArray, List.set_cons_succ, List.set_cons_zero])))
    refine sets_store_blk rfl _ _ _ rfl rfl (W.heap.size + 1) (instV ⟨0, 0, 0, 0, rd, rs1, 0, 0, 0, 0, csr⟩) rfl rfl 27 (by kernel_rfl) (by simp [Value.oneCell']) ?_ ?_
    · rintro S X a1 _ _ ⟨i1, i2, i3, i4⟩
      refine ⟨⟨_, i3, by cases S 18 <;> rfl⟩, i1.rowOther _ (by omega), i2.rowOther _ (by omega), i3.row _, below_setRow i4 (by omega) _⟩
    (repeat (first | (refine sets_quiet (fun w' => ∃ u, w' = V u) hU.out rfl (fun _ _ _ h => h) rfl ?_; intro K hK; go_big_quiet_op; first | go_big_quiet_on | (refine ⟨_, fun _ => rfl, ?_⟩; go_big_quiet_on)) | (refine sets_skip rfl (fun _ _ _ h => h) ?_; simp only [Act.put, List.setIfInBounds_toArray, List.set_cons_succ, List.set_cons_zero])))
    rintro S X hS ⟨i1, i2, i3, i4⟩
    rw [show S 18 = true from hS 18 (by decide), cond_true] at i3
    clear hU hV kf
    go_wp2
    exact bodyPost_ret (results_c2 rfl _ _ (W.heap.size + 1) _ _ _ rfl i3 Try.underlying27 rfl (by kernel_rfl)) rfl ⟨z, by rw [HC.out]; rfl, fun _ => (by rw [HVV.out]; exact HZZ.out), HZ2.out, i4⟩
abbrev own7 (x : I11) : I11 := ⟨0, 0, 0, 0, x.rd, x.rs1, 0, 0, 0, x.imm, 0⟩
abbrev may7 (x : I11) : Bool := may1 x && immB x
abbrev V7 (x : I11) : Nat := V1 x + 1048576 * (x.imm % 4096).toNat
theorem lay7_c (W : World) (c ci : Nat) (x : I11) (h1 : x.rd < 256) (h2 : x.rs1 < 256) (h3 : x.rs2 < 256) (h4 : x.rs3 < 256) (h5 : x.rm < 256) (h6 : x.csr < 256) (h7 : -32768 ≤ x.imm ∧ x.imm ≤ 32767) (hc : W.cell? ⟨c, 0, none⟩ = some (.func (.func 89) #[] #[])) (hi : W.cell? ⟨ci, 0, none⟩ = some (.func (.func 94) #[] #[])) : Calls Try.prog 96 #[.agg (instV x), .pointer (some ⟨c, 0, none⟩), .pointer (some ⟨ci, 0, none⟩)] W (LayP W (own7 x) (may7 x) (V7 x)) := by
  have C1 : Hid (∀ Y, Below W.heap.size W Y → Calls Try.prog 89 #[.agg (instV x)] Y (LayP Y (ownRd x) (may1 x) (V1 x))) := Lib.hid fun Y hb => lay1_c Y x h1 h2
  have HV : Hid (may1 x = true → V1 x / 1048576 % 4096 = 0 ∧ V1 x < 4294967296) := Lib.hid (fun h => by
    simp only [may1, Bool.and_eq_true, decide_eq_true_eq] at h
    simp only [V1]
    omega)
  obtain ⟨op, form, frm, kind, rd, rs1, rs2, rs3, rm, imm, csr⟩ := x
  simp only [] at h1 h2 h3 h4 h5 h6 h7
  obtain ⟨m0, hm0⟩ : ∃ m0, may1 ⟨op, form, frm, kind, rd, rs1, rs2, rs3, rm, imm, csr⟩ = m0 := ⟨_, rfl⟩
  obtain ⟨v0, hv0⟩ : ∃ v0, V1 ⟨op, form, frm, kind, rd, rs1, rs2, rs3, rm, imm, csr⟩ = v0 := ⟨_, rfl⟩
  have HMAY : Hid (may7 ⟨op, form, frm, kind, rd, rs1, rs2, rs3, rm, imm, csr⟩ = (m0 && immB ⟨op, form, frm, kind, rd, rs1, rs2, rs3, rm, imm, csr⟩)) := Lib.hid (by rw [← hm0])
  have HVV : Hid (V7 ⟨op, form, frm, kind, rd, rs1, rs2, rs3, rm, imm, csr⟩ = v0 + 1048576 * (imm % 4096).toNat) := Lib.hid (by rw [← hv0])
  rw [hm0, hv0] at C1 HV
  clear hm0 hv0
  have kI := (Blk.new W (instV ⟨op, form, frm, kind, rd, rs1, rs2, rs3, rm, imm, csr⟩) 27).alloc (.cells (instV zeroI) 27)
  have kO := Blk.new (W.alloc (.cells (instV ⟨op, form, frm, kind, rd, rs1, rs2, rs3, rm, imm, csr⟩) 27)) (instV zeroI) 27
  have kB := ((Below.refl W.heap.size W).alloc (Nat.le_refl _) (.cells (instV ⟨op, form, frm, kind, rd, rs1, rs2, rs3, rm, imm, csr⟩) 27)).alloc (by simp) (.cells (instV zeroI) 27)
  rw [World.size_alloc] at kO
  obtain ⟨A, hA⟩ : ∃ A, ((W.alloc (.cells (instV ⟨op, form, frm, kind, rd, rs1, rs2, rs3, rm, imm, csr⟩) 27)).alloc (.cells (instV zeroI) 27)) = A := ⟨_, rfl⟩
  rw [hA] at kI kO kB
  have hcA := cell_later' kB hc
  have CA := Lib.hid (C1.out A kB)
  have HI := Lib.hid hi
  clear hi
  have HA := Lib.hid hA
  have KI := Lib.hid kI
  have KO := Lib.hid kO
  have KB := Lib.hid kB
  clear hA kI kO kB hc C1
  go_enter Try.func96, Try.ntmps96
  go_upto_region 1 with fail
  show Code.wp _ _ _ _ ((W.alloc (.cells (instV ⟨op, form, frm, kind, rd, rs1, rs2, rs3, rm, imm, csr⟩) 27)).alloc (.cells (instV zeroI) 27))
  rw [HA.out]
  go_upto_region 3 with (first
    | (refine wpList_load_blk rfl _ _ rfl _ rfl _ _ _ KI.out Try.underlying27 rfl (by kernel_rfl) ?_)
    | (go_at_call 89; (with_reducible refine CA.out.mono ?_); rintro e w1 ⟨z0, rfl, hz0, hz32, hb1⟩; clear CA; have cf : w1.cell? ⟨W.heap.size, 9, none⟩ = some (.int .i16 imm) := (KI.out.call hb1).cell 9; have cf2 : ∀ o, (w1.alloc o).cell? ⟨W.heap.size, 9, none⟩ = some (.int .i16 imm) := fun o => ((KI.out.call hb1).alloc o).cell 9))
  have kI := (KI.out.call hb1).alloc (.cells (instV ⟨0, 0, 0, 0, rd, rs1, 0, 0, 0, imm, 0⟩) 27)
  have kO := (KO.out.call hb1).alloc (.cells (instV ⟨0, 0, 0, 0, rd, rs1, 0, 0, 0, imm, 0⟩) 27)
  have kW := Blk.new w1 (instV ⟨0, 0, 0, 0, rd, rs1, 0, 0, 0, imm, 0⟩) 27
  have hs1 : W.heap.size + 1 < w1.heap.size := (KO.out.call hb1).lt
  have kB := (KB.out.trans (hb1.mono KB.out.size)).alloc (by omega) (.cells (instV ⟨0, 0, 0, 0, rd, rs1, 0, 0, 0, imm, 0⟩) 27)
  show Code.wp _ _ _ _ (w1.alloc (.cells (instV ⟨0, 0, 0, 0, rd, rs1, 0, 0, 0, imm, 0⟩) 27))
  obtain ⟨A2, hA2⟩ : ∃ A2, w1.alloc (.cells (instV ⟨0, 0, 0, 0, rd, rs1, 0, 0, 0, imm, 0⟩) 27) = A2 := ⟨_, rfl⟩
  rw [hA2] at kI kO kW kB ⊢
  clear hA2 cf cf2 hb1 HA KI KO KB hcA
  obtain ⟨i, hi12⟩ : ∃ i, (imm % 4096).toNat = i := ⟨_, rfl⟩
  have HI12 := Lib.hid hi12
  obtain ⟨iu, hiu⟩ : ∃ iu : Nat, imm % 4294967296 = (iu : Int) := ⟨(imm % 4294967296).toNat, by omega⟩
  have hiu1 : iu < 4294967296 := by omega
  have hiu2 : iu * 1048576 % 4294967296 = i * 1048576 % 4294967296 := by omega
  obtain ⟨z, hz⟩ : ∃ z, z0 ||| i * 1048576 % 4294967296 = z := ⟨_, rfl⟩
  have hz2 : z < 4294967296 := by rw [← hz]; exact or_lt32 hz32 (Nat.mod_lt _ (by decide))
  have e1 : bits .or .u32 (z0 : Int) ((iu : Int) * 1048576 % 4294967296) = ((z : Nat) : Int) := by
    have h1 : (iu : Int) * 1048576 % 4294967296 = ((i * 1048576 % 4294967296 : Nat) : Int) := by omega
    rw [h1, or32 _ _ hz32 (Nat.mod_lt _ (by decide)), hz]
  have hi12lt : i < 4096 := by omega
  clear hi12 hiu2
  have HZ : Hid (m0 = true → i < 4096 → z = v0 + 1048576 * i) := Lib.hid (fun hm hl => by
    have a := HV.out hm
    rw [← hz, Nat.mod_eq_of_lt (by omega), hz0 hm, or_sum 20 12 a.1 hl]
    omega)
  have HZ2 := Lib.hid hz2
  clear hz hz2 hz0 HV
  have KI := Lib.hid kI
  have KO := Lib.hid kO
  have KW := Lib.hid kW
  have KB := Lib.hid kB
  clear kI kO kW kB
  rcases (by cases m0 <;> simp <;> cases immB ⟨op, form, frm, kind, rd, rs1, rs2, rs3, rm, imm, csr⟩ <;> simp : (m0 = false) ∨ (m0 = true ∧ immB ⟨op, form, frm, kind, rd, rs1, rs2, rs3, rm, imm, csr⟩ = false) ∨ (m0 = true ∧ immB ⟨op, form, frm, kind, rd, rs1, rs2, rs3, rm, imm, csr⟩ = true)) with hcase | hcase | hcase
  · skip
    have hm : m0 = false := hcase
    have HC : Hid (may7 ⟨op, form, frm, kind, rd, rs1, rs2, rs3, rm, imm, csr⟩ = false) := Lib.hid (by rw [HMAY.out, hm]; rfl)
    clear hcase
    subst hm
    refine wp_region_sets_lit (fun S X => Blk X W.heap.size (instV ⟨op, form, frm, kind, rd, rs1, rs2, rs3, rm, imm, csr⟩) 27 ∧ Blk X w1.heap.size (instV ⟨0, 0, 0, 0, rd, rs1, 0, 0, 0, imm, 0⟩) 27 ∧ Blk X (W.heap.size + 1) (bif S 14 then instV ⟨0, 0, 0, 0, rd, rs1, 0, 0, 0, imm, 0⟩ else instV zeroI) 27 ∧ Below W.heap.size W X) (by kernel_rfl) (by kernel_rfl) ⟨KI.out, KW.out, KO.out, KB.out.drew⟩ ?_
    obtain ⟨U, V, hV, hU⟩ := worlds (fun S X => Blk X W.heap.size (instV ⟨op, form, frm, kind, rd, rs1, rs2, rs3, rm, imm, csr⟩) 27 ∧ Blk X w1.heap.size (instV ⟨0, 0, 0, 0, rd, rs1, 0, 0, 0, imm, 0⟩) 27 ∧ Blk X (W.heap.size + 1) (bif S 14 then instV ⟨0, 0, 0, 0, rd, rs1, 0, 0, 0, imm, 0⟩ else instV zeroI) 27 ∧ Below W.heap.size W X)
    have kf : ∀ u, (V u).cell? ⟨W.heap.size, 9, none⟩ = some (.int .i16 imm) := fun u => by obtain ⟨S, h, _⟩ := hV u; exact h.cell 9
    have ki : ∀ u, (V u).cell? ⟨ci, 0, none⟩ = some (.func (.func 94) #[] #[]) := fun u => by obtain ⟨S, _, _, _, h⟩ := hV u; exact cell_later' h HI.out
    replace hV := Lib.hid hV
    replace hU := Lib.hid hU
    refine sets_load_blk rfl (fun _ _ _ h => h) _ _ rfl w1.heap.size rfl _ (instV ⟨0, 0, 0, 0, rd, rs1, 0, 0, 0, imm, 0⟩) _ (fun S X _ h => h.2.1) Try.underlying27 rfl (by kernel_rfl) ?_
    simp only [Act.put, List.setIfInBounds_toArray, List.set_cons_succ, List.set_cons_zero]
    (repeat (first | (refine sets_quiet (fun w' => ∃ u, w' = V u) hU.out rfl (fun _ _ _ h => h) rfl ?_; intro K hK; go_big_quiet_op; first | go_big_quiet_on | (refine ⟨_, fun _ => rfl, ?_⟩; go_big_quiet_on)) | (refine sets_skip rfl (fun _ _ _ h => h) ?_; simp only [Act.put, List.setIfInBounds_toArray, List.set_cons_succ, List.set_cons_zero])))
    refine sets_store_blk rfl _ _ _ rfl rfl (W.heap.size + 1) (instV ⟨0, 0, 0, 0, rd, rs1, 0, 0, 0, imm, 0⟩) rfl rfl 27 (by kernel_rfl) (by simp [Value.oneCell']) ?_ ?_
    · rintro S X a1 _ _ ⟨i1, i2, i3, i4⟩
      refine ⟨⟨_, i3, by cases S 14 <;> rfl⟩, i1.rowOther _ (by omega), i2.rowOther _ (by omega), i3.row _, below_setRow i4 (by omega) _⟩
    (repeat (first | (refine sets_quiet (fun w' => ∃ u, w' = V u) hU.out rfl (fun _ _ _ h => h) rfl ?_; intro K hK; go_big_quiet_op; first | go_big_quiet_on | (refine ⟨_, fun _ => rfl, ?_⟩; go_big_quiet_on)) | (refine sets_skip rfl (fun _ _ _ h => h) ?_; simp only [Act.put, List.setIfInBounds_toArray, List.set_cons_succ, List.set_cons_zero])))
    rintro S X hS ⟨i1, i2, i3, i4⟩
    rw [show S 14 = true from hS 14 (by decide), cond_true] at i3
    clear hU hV kf ki
    go_wp2
    exact bodyPost_ret (results_c2 rfl _ _ (W.heap.size + 1) _ _ _ rfl i3 Try.underlying27 rfl (by kernel_rfl)) rfl ⟨z, by rw [HC.out]; rfl, fun h => (by rw [HC.out] at h; cases h), HZ2.out, i4⟩
  · skip
    have hm : m0 = true := hcase.1
    have HC : Hid (may7 ⟨op, form, frm, kind, rd, rs1, rs2, rs3, rm, imm, csr⟩ = false) := Lib.hid (by rw [HMAY.out, hm, hcase.2]; rfl)
    have CM : Hid (∀ Y, Calls Try.prog 94 #[.agg (instV ⟨op, form, frm, kind, rd, rs1, rs2, rs3, rm, imm, csr⟩)] Y fun e w' => e = .returned (.bool false) ∧ Below Y.heap.size Y w') := Lib.hid fun Y => by have := imm_c Y ⟨op, form, frm, kind, rd, rs1, rs2, rs3, rm, imm, csr⟩; rw [hcase.2] at this; exact this
    clear hcase
    subst hm
    refine wp_region_sets_lit (fun S X => Blk X W.heap.size (instV ⟨op, form, frm, kind, rd, rs1, rs2, rs3, rm, imm, csr⟩) 27 ∧ Blk X w1.heap.size (instV ⟨0, 0, 0, 0, rd, rs1, 0, 0, 0, imm, 0⟩) 27 ∧ Blk X (W.heap.size + 1) (bif S 14 then instV ⟨0, 0, 0, 0, rd, rs1, 0, 0, 0, imm, 0⟩ else instV zeroI) 27 ∧ Below W.heap.size W X) (by kernel_rfl) (by kernel_rfl) ⟨KI.out, KW.out, KO.out, KB.out.drew⟩ ?_
    obtain ⟨U, V, hV, hU⟩ := worlds (fun S X => Blk X W.heap.size (instV ⟨op, form, frm, kind, rd, rs1, rs2, rs3, rm, imm, csr⟩) 27 ∧ Blk X w1.heap.size (instV ⟨0, 0, 0, 0, rd, rs1, 0, 0, 0, imm, 0⟩) 27 ∧ Blk X (W.heap.size + 1) (bif S 14 then instV ⟨0, 0, 0, 0, rd, rs1, 0, 0, 0, imm, 0⟩ else instV zeroI) 27 ∧ Below W.heap.size W X)
    have kf : ∀ u, (V u).cell? ⟨W.heap.size, 9, none⟩ = some (.int .i16 imm) := fun u => by obtain ⟨S, h, _⟩ := hV u; exact h.cell 9
    have ki : ∀ u, (V u).cell? ⟨ci, 0, none⟩ = some (.func (.func 94) #[] #[]) := fun u => by obtain ⟨S, _, _, _, h⟩ := hV u; exact cell_later' h HI.out
    replace hV := Lib.hid hV
    replace hU := Lib.hid hU
    refine sets_load_blk rfl (fun _ _ _ h => h) _ _ rfl w1.heap.size rfl _ (instV ⟨0, 0, 0, 0, rd, rs1, 0, 0, 0, imm, 0⟩) _ (fun S X _ h => h.2.1) Try.underlying27 rfl (by kernel_rfl) ?_
    simp only [Act.put, List.setIfInBounds_toArray, List.set_cons_succ, List.set_cons_zero]
    (repeat (first | (refine sets_quiet (fun w' => ∃ u, w' = V u) hU.out rfl (fun _ _ _ h => h) rfl ?_; intro K hK; go_big_quiet_op; first | go_big_quiet_on | (refine ⟨_, fun _ => rfl, ?_⟩; go_big_quiet_on)) | (refine sets_skip rfl (fun _ _ _ h => h) ?_; simp only [Act.put, List.setIfInBounds_toArray, List.set_cons_succ, List.set_cons_zero])))
    refine sets_load_blk rfl (fun _ _ _ h => h) _ _ rfl W.heap.size rfl _ (instV ⟨op, form, frm, kind, rd, rs1, rs2, rs3, rm, imm, csr⟩) _ (fun S X _ h => h.1) Try.underlying27 rfl (by kernel_rfl) ?_
    simp only [Act.put, List.setIfInBounds_toArray, List.set_cons_succ, List.set_cons_zero]
    refine sets_callv (.bool false) rfl _ 94 [] [] [_] _ rfl rfl Try.f94 Try.func94 (by kernel_rfl) (by kernel_rfl) [_] rfl (fun S X a1 a2 a3 => ?_) ?_
    · refine (CM.out X).mono ?_
      rintro e X2 ⟨rfl, hbl⟩
      exact ⟨rfl, a3.1.call hbl, a3.2.1.call hbl, a3.2.2.1.call hbl, a3.2.2.2.trans (hbl.mono a3.2.2.2.size)⟩
    simp only [Act.put, List.setIfInBounds_toArray, List.set_cons_succ, List.set_cons_zero]
    (repeat (first | (refine sets_quiet (fun w' => ∃ u, w' = V u) hU.out rfl (fun _ _ _ h => h) rfl ?_; intro K hK; go_big_quiet_op; first | go_big_quiet_on | (refine ⟨_, fun _ => rfl, ?_⟩; go_big_quiet_on)) | (refine sets_skip rfl (fun _ _ _ h => h) ?_; simp only [Act.put, List.setIfInBounds_toArray, List.set_cons_succ, List.set_cons_zero])))
    refine sets_store_blk rfl _ _ _ rfl rfl (W.heap.size + 1) (instV ⟨0, 0, 0, 0, rd, rs1, 0, 0, 0, imm, 0⟩) rfl rfl 27 (by kernel_rfl) (by simp [Value.oneCell']) ?_ ?_
    · rintro S X a1 _ _ ⟨i1, i2, i3, i4⟩
      refine ⟨⟨_, i3, by cases S 14 <;> rfl⟩, i1.rowOther _ (by omega), i2.rowOther _ (by omega), i3.row _, below_setRow i4 (by omega) _⟩
    (repeat (first | (refine sets_quiet (fun w' => ∃ u, w' = V u) hU.out rfl (fun _ _ _ h => h) rfl ?_; intro K hK; go_big_quiet_op; first | go_big_quiet_on | (refine ⟨_, fun _ => rfl, ?_⟩; go_big_quiet_on)) | (refine sets_skip rfl (fun _ _ _ h => h) ?_; simp only [Act.put, List.setIfInBounds_toArray, List.set_cons_succ, List.set_cons_zero])))
    rintro S X hS ⟨i1, i2, i3, i4⟩
    rw [show S 14 = true from hS 14 (by decide), cond_true] at i3
    clear hU hV kf ki
    go_wp2
    exact bodyPost_ret (results_c2 rfl _ _ (W.heap.size + 1) _ _ _ rfl i3 Try.underlying27 rfl (by kernel_rfl)) rfl ⟨z, by rw [HC.out]; rfl, fun h => (by rw [HC.out] at h; cases h), HZ2.out, i4⟩
  · skip
    have hm : m0 = true := hcase.1
    have HC : Hid (may7 ⟨op, form, frm, kind, rd, rs1, rs2, rs3, rm, imm, csr⟩ = true) := Lib.hid (by rw [HMAY.out, hm, hcase.2]; rfl)
    have CM : Hid (∀ Y, Calls Try.prog 94 #[.agg (instV ⟨op, form, frm, kind, rd, rs1, rs2, rs3, rm, imm, csr⟩)] Y fun e w' => e = .returned (.bool true) ∧ Below Y.heap.size Y w') := Lib.hid fun Y => by have := imm_c Y ⟨op, form, frm, kind, rd, rs1, rs2, rs3, rm, imm, csr⟩; rw [hcase.2] at this; exact this
    have HZZ : Hid (z = v0 + 1048576 * (imm % 4096).toNat) := Lib.hid (HI12.out ▸ HZ.out hm hi12lt)
    clear hcase
    subst hm
    refine wp_region_sets_lit (fun S X => Blk X W.heap.size (instV ⟨op, form, frm, kind, rd, rs1, rs2, rs3, rm, imm, csr⟩) 27 ∧ Blk X w1.heap.size (instV ⟨0, 0, 0, 0, rd, rs1, 0, 0, 0, imm, 0⟩) 27 ∧ Blk X (W.heap.size + 1) (bif S 14 then instV ⟨0, 0, 0, 0, rd, rs1, 0, 0, 0, imm, 0⟩ else instV zeroI) 27 ∧ Below W.heap.size W X) (by kernel_rfl) (by kernel_rfl) ⟨KI.out, KW.out, KO.out, KB.out.drew⟩ ?_
    obtain ⟨U, V, hV, hU⟩ := worlds (fun S X => Blk X W.heap.size (instV ⟨op, form, frm, kind, rd, rs1, rs2, rs3, rm, imm, csr⟩) 27 ∧ Blk X w1.heap.size (instV ⟨0, 0, 0, 0, rd, rs1, 0, 0, 0, imm, 0⟩) 27 ∧ Blk X (W.heap.size + 1) (bif S 14 then instV ⟨0, 0, 0, 0, rd, rs1, 0, 0, 0, imm, 0⟩ else instV zeroI) 27 ∧ Below W.heap.size W X)
    have kf : ∀ u, (V u).cell? ⟨W.heap.size, 9, none⟩ = some (.int .i16 imm) := fun u => by obtain ⟨S, h, _⟩ := hV u; exact h.cell 9
    have ki : ∀ u, (V u).cell? ⟨ci, 0, none⟩ = some (.func (.func 94) #[] #[]) := fun u => by obtain ⟨S, _, _, _, h⟩ := hV u; exact cell_later' h HI.out
    replace hV := Lib.hid hV
    replace hU := Lib.hid hU
    refine sets_load_blk rfl (fun _ _ _ h => h) _ _ rfl w1.heap.size rfl _ (instV ⟨0, 0, 0, 0, rd, rs1, 0, 0, 0, imm, 0⟩) _ (fun S X _ h => h.2.1) Try.underlying27 rfl (by kernel_rfl) ?_
    simp only [Act.put, List.setIfInBounds_toArray, List.set_cons_succ, List.set_cons_zero]
    (repeat (first | (refine sets_quiet (fun w' => ∃ u, w' = V u) hU.out rfl (fun _ _ _ h => h) rfl ?_; intro K hK; go_big_quiet_op; first | go_big_quiet_on | (refine ⟨_, fun _ => rfl, ?_⟩; go_big_quiet_on)) | (refine sets_skip rfl (fun _ _ _ h => h) ?_; simp only [Act.put, List.setIfInBounds_toArray, List.set_cons_succ, List.set_cons_zero])))
    refine sets_load_blk rfl (fun _ _ _ h => h) _ _ rfl W.heap.size rfl _ (instV ⟨op, form, frm, kind, rd, rs1, rs2, rs3, rm, imm, csr⟩) _ (fun S X _ h => h.1) Try.underlying27 rfl (by kernel_rfl) ?_
    simp only [Act.put, List.setIfInBounds_toArray, List.set_cons_succ, List.set_cons_zero]
    refine sets_callv (.bool true) rfl _ 94 [] [] [_] _ rfl rfl Try.f94 Try.func94 (by kernel_rfl) (by kernel_rfl) [_] rfl (fun S X a1 a2 a3 => ?_) ?_
    · refine (CM.out X).mono ?_
      rintro e X2 ⟨rfl, hbl⟩
      exact ⟨rfl, a3.1.call hbl, a3.2.1.call hbl, a3.2.2.1.call hbl, a3.2.2.2.trans (hbl.mono a3.2.2.2.size)⟩
    simp only [Act.put, List.setIfInBounds_toArray, List.set_cons_succ, List.set_cons_zero]
    (repeat (first | (refine sets_quiet (fun w' => ∃ u, w' = V u) hU.out rfl (fun _ _ _ h => h) rfl ?_; intro K hK; go_big_quiet_op; first | go_big_quiet_on | (refine ⟨_, fun _ => rfl, ?_⟩; go_big_quiet_on)) | (refine sets_skip rfl (fun _ _ _ h => h) ?_; simp only [Act.put, List.setIfInBounds_toArray, List.set_cons_succ, List.set_cons_zero])))
    refine sets_store_blk rfl _ _ _ rfl rfl (W.heap.size + 1) (instV ⟨0, 0, 0, 0, rd, rs1, 0, 0, 0, imm, 0⟩) rfl rfl 27 (by kernel_rfl) (by simp [Value.oneCell']) ?_ ?_
    · rintro S X a1 _ _ ⟨i1, i2, i3, i4⟩
      refine ⟨⟨_, i3, by cases S 14 <;> rfl⟩, i1.rowOther _ (by omega), i2.rowOther _ (by omega), i3.row _, below_setRow i4 (by omega) _⟩
    (repeat (first | (refine sets_quiet (fun w' => ∃ u, w' = V u) hU.out rfl (fun _ _ _ h => h) rfl ?_; intro K hK; go_big_quiet_op; first | go_big_quiet_on | (refine ⟨_, fun _ => rfl, ?_⟩; go_big_quiet_on)) | (refine sets_skip rfl (fun _ _ _ h => h) ?_; simp only [Act.put, List.setIfInBounds_toArray, List.set_cons_succ, List.set_cons_zero])))
    rintro S X hS ⟨i1, i2, i3, i4⟩
    rw [show S 14 = true from hS 14 (by decide), cond_true] at i3
    clear hU hV kf ki
    go_wp2
    exact bodyPost_ret (results_c2 rfl _ _ (W.heap.size + 1) _ _ _ rfl i3 Try.underlying27 rfl (by kernel_rfl)) rfl ⟨z, by rw [HC.out]; rfl, fun _ => (by rw [HVV.out]; exact HZZ.out), HZ2.out, i4⟩
end Go.Proofs.Ytaddmgclnbkdgaa
