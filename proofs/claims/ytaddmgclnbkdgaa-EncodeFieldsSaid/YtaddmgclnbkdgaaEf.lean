/- The function of stores in encode.lays. -/
import Derived.Test.YtaddmgclnbkdgaaEe
namespace Go.Proofs.Ytaddmgclnbkdgaa
open Go Go.RowKit
set_option maxHeartbeats 4000000
set_option maxRecDepth 100000
set_option linter.unusedVariables false
set_option linter.unusedSimpArgs false
abbrev own8 (x : I11) : I11 := ⟨0, 0, 0, 0, 0, x.rs1, x.rs2, 0, 0, x.imm, 0⟩
abbrev may8 (x : I11) : Bool := (decide (x.rs1 < 32) && decide (x.rs2 < 32)) && immB x
abbrev V8 (x : I11) : Nat := 128 * ((x.imm % 4096).toNat % 32) + 32768 * x.rs1 + 1048576 * x.rs2 + 33554432 * ((x.imm % 4096).toNat / 32)
theorem lay8_c (W : World) (ci : Nat) (x : I11) (h1 : x.rd < 256) (h2 : x.rs1 < 256) (h3 : x.rs2 < 256) (h4 : x.rs3 < 256) (h5 : x.rm < 256) (h6 : x.csr < 256) (h7 : -32768 ≤ x.imm ∧ x.imm ≤ 32767) (hi : W.cell? ⟨ci, 0, none⟩ = some (.func (.func 94) #[] #[])) :
    Calls Try.prog 97 #[.agg (instV x), .pointer (some ⟨ci, 0, none⟩)] W (LayP W (own8 x) (may8 x) (V8 x)) := by
  obtain ⟨op, form, frm, kind, rd, rs1, rs2, rs3, rm, imm, csr⟩ := x
  simp only [] at h1 h2 h3 h4 h5 h6 h7
  obtain ⟨i, hi12⟩ : ∃ i, (imm % 4096).toNat = i := ⟨_, rfl⟩
  obtain ⟨iu, hiu⟩ : ∃ iu : Nat, imm % 4294967296 = (iu : Int) := ⟨(imm % 4294967296).toNat, by omega⟩
  have hiu1 : iu < 4294967296 := by omega
  obtain ⟨ih, hih⟩ : ∃ ih, iu / 32 = ih := ⟨_, rfl⟩
  have eH : (iu : Int) / 32 = (ih : Int) := by omega
  obtain ⟨a1, ha1⟩ : ∃ a, iu % 32 = a := ⟨_, rfl⟩
  have eA : bits .and .u32 (iu : Int) 31 = ((a1 : Nat) : Int) := by
    rw [show (31 : Int) = ((31 : Nat) : Int) from rfl, and32 _ 31 hiu1 (by decide), ← ha1]
    congr 1
    exact Nat.and_two_pow_sub_one_eq_mod iu 5
  have la1 : a1 < 32 := by omega
  obtain ⟨o1, ho1⟩ : ∃ o, rs1 * 32768 ||| rs2 * 1048576 = o := ⟨_, rfl⟩
  have lo1 : o1 < 4294967296 := by rw [← ho1]; exact or_lt32 (by omega) (by omega)
  have e1 : bits .or .u32 ((rs1 : Int) * 32768) ((rs2 : Int) * 1048576) = ((o1 : Nat) : Int) := by
    have k1 : (rs1 : Int) * 32768 = ((rs1 * 32768 : Nat) : Int) := by omega
    have k2 : (rs2 : Int) * 1048576 = ((rs2 * 1048576 : Nat) : Int) := by omega
    rw [k1, k2, or32 _ _ (by omega) (by omega), ho1]
  obtain ⟨o2, ho2⟩ : ∃ o, o1 ||| a1 * 128 = o := ⟨_, rfl⟩
  have lo2 : o2 < 4294967296 := by rw [← ho2]; exact or_lt32 lo1 (by omega)
  have e2 : bits .or .u32 (o1 : Int) ((a1 : Int) * 128) = ((o2 : Nat) : Int) := by
    have k1 : (a1 : Int) * 128 = ((a1 * 128 : Nat) : Int) := by omega
    rw [k1, or32 _ _ lo1 (by omega), ho2]
  obtain ⟨z, hz⟩ : ∃ o, o2 ||| ih * 33554432 % 4294967296 = o := ⟨_, rfl⟩
  have lz : z < 4294967296 := by rw [← hz]; exact or_lt32 lo2 (Nat.mod_lt _ (by decide))
  have e3 : bits .or .u32 (o2 : Int) ((ih : Int) * 33554432 % 4294967296) = ((z : Nat) : Int) := by
    have k1 : (ih : Int) * 33554432 % 4294967296 = ((ih * 33554432 % 4294967296 : Nat) : Int) := by omega
    rw [k1, or32 _ _ lo2 (Nat.mod_lt _ (by decide)), hz]
  have HZ : Hid (rs1 < 32 → rs2 < 32 → z = V8 ⟨op, form, frm, kind, rd, rs1, rs2, rs3, rm, imm, csr⟩) := Lib.hid (fun g1 g2 => by
    have q1 : o1 = rs1 * 32768 + rs2 * 1048576 := by rw [← ho1]; exact or_sum 20 5 (by omega) g2
    have q2 : o2 = o1 + a1 * 128 := by rw [← ho2]; exact or_sum 7 5 (by omega) la1
    have q3 : ih * 33554432 % 4294967296 = (ih % 128) * 33554432 := by omega
    have q4 : z = o2 + (ih % 128) * 33554432 := by rw [← hz, q3]; exact or_sum 25 7 (by omega) (Nat.mod_lt _ (by decide))
    have q5 : ih % 128 = i / 32 := by omega
    have q6 : a1 = i % 32 := by omega
    show z = 128 * ((imm % 4096).toNat % 32) + 32768 * rs1 + 1048576 * rs2 + 33554432 * ((imm % 4096).toNat / 32)
    rw [hi12, q4, q2, q1, q5, q6]
    omega)
  have LZ := Lib.hid lz
  clear hi12 hih ha1 ho1 ho2 hz lz lo1 lo2
  have HI := Lib.hid hi
  have kI := ((Blk.new W (instV ⟨op, form, frm, kind, rd, rs1, rs2, rs3, rm, imm, csr⟩) 27).alloc (.cells (instV zeroI) 27)).alloc (.cells (instV ⟨0, 0, 0, 0, 0, rs1, rs2, 0, 0, imm, 0⟩) 27)
  have kO := (Blk.new (W.alloc (.cells (instV ⟨op, form, frm, kind, rd, rs1, rs2, rs3, rm, imm, csr⟩) 27)) (instV zeroI) 27).alloc (.cells (instV ⟨0, 0, 0, 0, 0, rs1, rs2, 0, 0, imm, 0⟩) 27)
  have kW := Blk.new ((W.alloc (.cells (instV ⟨op, form, frm, kind, rd, rs1, rs2, rs3, rm, imm, csr⟩) 27)).alloc (.cells (instV zeroI) 27)) (instV ⟨0, 0, 0, 0, 0, rs1, rs2, 0, 0, imm, 0⟩) 27
  have kB := (((Below.refl W.heap.size W).alloc (Nat.le_refl _) (.cells (instV ⟨op, form, frm, kind, rd, rs1, rs2, rs3, rm, imm, csr⟩) 27)).alloc (by simp) (.cells (instV zeroI) 27)).alloc (by simp; omega) (.cells (instV ⟨0, 0, 0, 0, 0, rs1, rs2, 0, 0, imm, 0⟩) 27)
  simp only [World.size_alloc] at kO kW
  obtain ⟨A, hA⟩ : ∃ A, ((W.alloc (.cells (instV ⟨op, form, frm, kind, rd, rs1, rs2, rs3, rm, imm, csr⟩) 27)).alloc (.cells (instV zeroI) 27)).alloc (.cells (instV ⟨0, 0, 0, 0, 0, rs1, rs2, 0, 0, imm, 0⟩) 27) = A := ⟨_, rfl⟩
  rw [hA] at kI kO kW kB
  have HA := Lib.hid hA
  have KI := Lib.hid kI
  have KO := Lib.hid kO
  have KW := Lib.hid kW
  have KB := Lib.hid kB
  clear hA kI kO kW kB hi
  have HMAY : Hid (may8 ⟨op, form, frm, kind, rd, rs1, rs2, rs3, rm, imm, csr⟩ = ((decide (rs1 < 32) && decide (rs2 < 32)) && immB ⟨op, form, frm, kind, rd, rs1, rs2, rs3, rm, imm, csr⟩)) := Lib.hid rfl
  rcases (by cases immB ⟨op, form, frm, kind, rd, rs1, rs2, rs3, rm, imm, csr⟩ <;> simp <;> omega : (¬ rs1 < 32) ∨ (rs1 < 32 ∧ ¬ rs2 < 32) ∨ (rs1 < 32 ∧ rs2 < 32 ∧ immB ⟨op, form, frm, kind, rd, rs1, rs2, rs3, rm, imm, csr⟩ = false) ∨ (rs1 < 32 ∧ rs2 < 32 ∧ immB ⟨op, form, frm, kind, rd, rs1, rs2, rs3, rm, imm, csr⟩ = true)) with hcase | hcase | hcase | hcase
  · skip
    have HC : Hid (may8 ⟨op, form, frm, kind, rd, rs1, rs2, rs3, rm, imm, csr⟩ = false) := Lib.hid (by rw [HMAY.out]; rw [decide_eq_false hcase]; rfl)
    have y1 : decide ((rs1 : Int) < 32) = false := decide_eq_false (by omega)
    clear hcase
    go_enter Try.func97, Try.ntmps97
    go_wp2
    show Code.wp _ _ _ _ (((W.alloc (.cells (instV ⟨op, form, frm, kind, rd, rs1, rs2, rs3, rm, imm, csr⟩) 27)).alloc (.cells (instV zeroI) 27)).alloc (.cells (instV ⟨0, 0, 0, 0, 0, rs1, rs2, 0, 0, imm, 0⟩) 27))
    rw [HA.out]
    refine wp_region_sets_lit (fun S X' => Blk X' W.heap.size (instV ⟨op, form, frm, kind, rd, rs1, rs2, rs3, rm, imm, csr⟩) 27 ∧ Blk X' (W.heap.size + 1 + 1) (instV ⟨0, 0, 0, 0, 0, rs1, rs2, 0, 0, imm, 0⟩) 27 ∧ Blk X' (W.heap.size + 1) (bif S 31 then instV ⟨0, 0, 0, 0, 0, rs1, rs2, 0, 0, imm, 0⟩ else instV zeroI) 27 ∧ Below W.heap.size W X') (by kernel_rfl) (by kernel_rfl) ⟨KI.out, KW.out, KO.out, KB.out.drew⟩ ?_
    obtain ⟨U, V, hV, hU⟩ := worlds (fun S X' => Blk X' W.heap.size (instV ⟨op, form, frm, kind, rd, rs1, rs2, rs3, rm, imm, csr⟩) 27 ∧ Blk X' (W.heap.size + 1 + 1) (instV ⟨0, 0, 0, 0, 0, rs1, rs2, 0, 0, imm, 0⟩) 27 ∧ Blk X' (W.heap.size + 1) (bif S 31 then instV ⟨0, 0, 0, 0, 0, rs1, rs2, 0, 0, imm, 0⟩ else instV zeroI) 27 ∧ Below W.heap.size W X')
    have k5 : ∀ u, (V u).cell? ⟨W.heap.size, 5, none⟩ = some (.int .u8 (rs1 : Nat)) := fun u => by obtain ⟨S, h, _⟩ := hV u; exact h.cell 5
    have k6 : ∀ u, (V u).cell? ⟨W.heap.size, 6, none⟩ = some (.int .u8 (rs2 : Nat)) := fun u => by obtain ⟨S, h, _⟩ := hV u; exact h.cell 6
    have ki : ∀ u, (V u).cell? ⟨ci, 0, none⟩ = some (.func (.func 94) #[] #[]) := fun u => by obtain ⟨S, _, _, _, h⟩ := hV u; exact cell_later' h HI.out
    replace hV := Lib.hid hV
    replace hU := Lib.hid hU
    refine sets_load_blk rfl (fun _ _ _ h => h) _ _ rfl (W.heap.size + 1 + 1) rfl _ (instV ⟨0, 0, 0, 0, 0, rs1, rs2, 0, 0, imm, 0⟩) _ (fun S X _ h => h.2.1) Try.underlying27 rfl (by kernel_rfl) ?_
    simp only [Act.put, List.setIfInBounds_toArray, List.set_cons_succ, List.set_cons_zero]
    (repeat (first | (refine sets_quiet (fun w' => ∃ u, w' = V u) hU.out rfl (fun _ _ _ h => h) rfl ?_; intro K hK; go_big_quiet_op; first | go_big_quiet_on | (refine ⟨_, fun _ => rfl, ?_⟩; go_big_quiet_on)) | (refine sets_skip rfl (fun _ _ _ h => h) ?_; simp only [Act.put, List.setIfInBounds_toArray, List.set_cons_succ, List.set_cons_zero])))
    refine sets_store_blk rfl _ _ _ rfl rfl (W.heap.size + 1) (instV ⟨0, 0, 0, 0, 0, rs1, rs2, 0, 0, imm, 0⟩) rfl rfl 27 (by kernel_rfl) (by simp [Value.oneCell']) ?_ ?_
    · rintro S X a1 _ _ ⟨i1, i2, i3, i4⟩
      exact ⟨⟨_, i3, by cases S 31 <;> rfl⟩, i1.rowOther _ (by omega), i2.rowOther _ (by omega), i3.row _, below_setRow i4 (by omega) _⟩
    (repeat (first | (refine sets_quiet (fun w' => ∃ u, w' = V u) hU.out rfl (fun _ _ _ h => h) rfl ?_; intro K hK; go_big_quiet_op; first | go_big_quiet_on | (refine ⟨_, fun _ => rfl, ?_⟩; go_big_quiet_on)) | (refine sets_skip rfl (fun _ _ _ h => h) ?_; simp only [Act.put, List.setIfInBounds_toArray, List.set_cons_succ, List.set_cons_zero])))
    rintro S X hS ⟨i1, i2, i3, i4⟩
    rw [show S 31 = true from hS 31 (by decide), cond_true] at i3
    clear hU hV k5 k6 ki
    go_wp2
    exact bodyPost_ret (results_c2 rfl _ _ (W.heap.size + 1) _ _ _ rfl i3 Try.underlying27 rfl (by kernel_rfl)) rfl ⟨z, by rw [HC.out]; rfl, fun h => (by rw [HC.out] at h; cases h), LZ.out, i4⟩
  · skip
    have HC : Hid (may8 ⟨op, form, frm, kind, rd, rs1, rs2, rs3, rm, imm, csr⟩ = false) := Lib.hid (by rw [HMAY.out]; rw [decide_eq_false hcase.2, Bool.and_false]; rfl)
    have y1 : decide ((rs1 : Int) < 32) = true := decide_eq_true (by omega)
    have y2 : decide ((rs2 : Int) < 32) = false := decide_eq_false (by omega)
    clear hcase
    go_enter Try.func97, Try.ntmps97
    go_wp2
    show Code.wp _ _ _ _ (((W.alloc (.cells (instV ⟨op, form, frm, kind, rd, rs1, rs2, rs3, rm, imm, csr⟩) 27)).alloc (.cells (instV zeroI) 27)).alloc (.cells (instV ⟨0, 0, 0, 0, 0, rs1, rs2, 0, 0, imm, 0⟩) 27))
    rw [HA.out]
    refine wp_region_sets_lit (fun S X' => Blk X' W.heap.size (instV ⟨op, form, frm, kind, rd, rs1, rs2, rs3, rm, imm, csr⟩) 27 ∧ Blk X' (W.heap.size + 1 + 1) (instV ⟨0, 0, 0, 0, 0, rs1, rs2, 0, 0, imm, 0⟩) 27 ∧ Blk X' (W.heap.size + 1) (bif S 31 then instV ⟨0, 0, 0, 0, 0, rs1, rs2, 0, 0, imm, 0⟩ else instV zeroI) 27 ∧ Below W.heap.size W X') (by kernel_rfl) (by kernel_rfl) ⟨KI.out, KW.out, KO.out, KB.out.drew⟩ ?_
    obtain ⟨U, V, hV, hU⟩ := worlds (fun S X' => Blk X' W.heap.size (instV ⟨op, form, frm, kind, rd, rs1, rs2, rs3, rm, imm, csr⟩) 27 ∧ Blk X' (W.heap.size + 1 + 1) (instV ⟨0, 0, 0, 0, 0, rs1, rs2, 0, 0, imm, 0⟩) 27 ∧ Blk X' (W.heap.size + 1) (bif S 31 then instV ⟨0, 0, 0, 0, 0, rs1, rs2, 0, 0, imm, 0⟩ else instV zeroI) 27 ∧ Below W.heap.size W X')
    have k5 : ∀ u, (V u).cell? ⟨W.heap.size, 5, none⟩ = some (.int .u8 (rs1 : Nat)) := fun u => by obtain ⟨S, h, _⟩ := hV u; exact h.cell 5
    have k6 : ∀ u, (V u).cell? ⟨W.heap.size, 6, none⟩ = some (.int .u8 (rs2 : Nat)) := fun u => by obtain ⟨S, h, _⟩ := hV u; exact h.cell 6
    have ki : ∀ u, (V u).cell? ⟨ci, 0, none⟩ = some (.func (.func 94) #[] #[]) := fun u => by obtain ⟨S, _, _, _, h⟩ := hV u; exact cell_later' h HI.out
    replace hV := Lib.hid hV
    replace hU := Lib.hid hU
    refine sets_load_blk rfl (fun _ _ _ h => h) _ _ rfl (W.heap.size + 1 + 1) rfl _ (instV ⟨0, 0, 0, 0, 0, rs1, rs2, 0, 0, imm, 0⟩) _ (fun S X _ h => h.2.1) Try.underlying27 rfl (by kernel_rfl) ?_
    simp only [Act.put, List.setIfInBounds_toArray, List.set_cons_succ, List.set_cons_zero]
    (repeat (first | (refine sets_quiet (fun w' => ∃ u, w' = V u) hU.out rfl (fun _ _ _ h => h) rfl ?_; intro K hK; go_big_quiet_op; first | go_big_quiet_on | (refine ⟨_, fun _ => rfl, ?_⟩; go_big_quiet_on)) | (refine sets_skip rfl (fun _ _ _ h => h) ?_; simp only [Act.put, List.setIfInBounds_toArray, List.set_cons_succ, List.set_cons_zero])))
    refine sets_store_blk rfl _ _ _ rfl rfl (W.heap.size + 1) (instV ⟨0, 0, 0, 0, 0, rs1, rs2, 0, 0, imm, 0⟩) rfl rfl 27 (by kernel_rfl) (by simp [Value.oneCell']) ?_ ?_
    · rintro S X a1 _ _ ⟨i1, i2, i3, i4⟩
      exact ⟨⟨_, i3, by cases S 31 <;> rfl⟩, i1.rowOther _ (by omega), i2.rowOther _ (by omega), i3.row _, below_setRow i4 (by omega) _⟩
    (repeat (first | (refine sets_quiet (fun w' => ∃ u, w' = V u) hU.out rfl (fun _ _ _ h => h) rfl ?_; intro K hK; go_big_quiet_op; first | go_big_quiet_on | (refine ⟨_, fun _ => rfl, ?_⟩; go_big_quiet_on)) | (refine sets_skip rfl (fun _ _ _ h => h) ?_; simp only [Act.put, List.setIfInBounds_toArray, List.set_cons_succ, List.set_cons_zero])))
    rintro S X hS ⟨i1, i2, i3, i4⟩
    rw [show S 31 = true from hS 31 (by decide), cond_true] at i3
    clear hU hV k5 k6 ki
    go_wp2
    exact bodyPost_ret (results_c2 rfl _ _ (W.heap.size + 1) _ _ _ rfl i3 Try.underlying27 rfl (by kernel_rfl)) rfl ⟨z, by rw [HC.out]; rfl, fun h => (by rw [HC.out] at h; cases h), LZ.out, i4⟩
  · skip
    have HC : Hid (may8 ⟨op, form, frm, kind, rd, rs1, rs2, rs3, rm, imm, csr⟩ = false) := Lib.hid (by rw [HMAY.out]; rw [hcase.2.2, Bool.and_false])
    have y1 : decide ((rs1 : Int) < 32) = true := decide_eq_true (by omega)
    have y2 : decide ((rs2 : Int) < 32) = true := decide_eq_true (by omega)
    have CM : Hid (∀ Y, Calls Try.prog 94 #[.agg (instV ⟨op, form, frm, kind, rd, rs1, rs2, rs3, rm, imm, csr⟩)] Y fun e w' => e = .returned (.bool false) ∧ Below Y.heap.size Y w') := Lib.hid fun Y => by have := imm_c Y ⟨op, form, frm, kind, rd, rs1, rs2, rs3, rm, imm, csr⟩; rw [hcase.2.2] at this; exact this
    clear hcase
    go_enter Try.func97, Try.ntmps97
    go_wp2
    show Code.wp _ _ _ _ (((W.alloc (.cells (instV ⟨op, form, frm, kind, rd, rs1, rs2, rs3, rm, imm, csr⟩) 27)).alloc (.cells (instV zeroI) 27)).alloc (.cells (instV ⟨0, 0, 0, 0, 0, rs1, rs2, 0, 0, imm, 0⟩) 27))
    rw [HA.out]
    refine wp_region_sets_lit (fun S X' => Blk X' W.heap.size (instV ⟨op, form, frm, kind, rd, rs1, rs2, rs3, rm, imm, csr⟩) 27 ∧ Blk X' (W.heap.size + 1 + 1) (instV ⟨0, 0, 0, 0, 0, rs1, rs2, 0, 0, imm, 0⟩) 27 ∧ Blk X' (W.heap.size + 1) (bif S 31 then instV ⟨0, 0, 0, 0, 0, rs1, rs2, 0, 0, imm, 0⟩ else instV zeroI) 27 ∧ Below W.heap.size W X') (by kernel_rfl) (by kernel_rfl) ⟨KI.out, KW.out, KO.out, KB.out.drew⟩ ?_
    obtain ⟨U, V, hV, hU⟩ := worlds (fun S X' => Blk X' W.heap.size (instV ⟨op, form, frm, kind, rd, rs1, rs2, rs3, rm, imm, csr⟩) 27 ∧ Blk X' (W.heap.size + 1 + 1) (instV ⟨0, 0, 0, 0, 0, rs1, rs2, 0, 0, imm, 0⟩) 27 ∧ Blk X' (W.heap.size + 1) (bif S 31 then instV ⟨0, 0, 0, 0, 0, rs1, rs2, 0, 0, imm, 0⟩ else instV zeroI) 27 ∧ Below W.heap.size W X')
    have k5 : ∀ u, (V u).cell? ⟨W.heap.size, 5, none⟩ = some (.int .u8 (rs1 : Nat)) := fun u => by obtain ⟨S, h, _⟩ := hV u; exact h.cell 5
    have k6 : ∀ u, (V u).cell? ⟨W.heap.size, 6, none⟩ = some (.int .u8 (rs2 : Nat)) := fun u => by obtain ⟨S, h, _⟩ := hV u; exact h.cell 6
    have ki : ∀ u, (V u).cell? ⟨ci, 0, none⟩ = some (.func (.func 94) #[] #[]) := fun u => by obtain ⟨S, _, _, _, h⟩ := hV u; exact cell_later' h HI.out
    replace hV := Lib.hid hV
    replace hU := Lib.hid hU
    refine sets_load_blk rfl (fun _ _ _ h => h) _ _ rfl (W.heap.size + 1 + 1) rfl _ (instV ⟨0, 0, 0, 0, 0, rs1, rs2, 0, 0, imm, 0⟩) _ (fun S X _ h => h.2.1) Try.underlying27 rfl (by kernel_rfl) ?_
    simp only [Act.put, List.setIfInBounds_toArray, List.set_cons_succ, List.set_cons_zero]
    (repeat (first | (refine sets_quiet (fun w' => ∃ u, w' = V u) hU.out rfl (fun _ _ _ h => h) rfl ?_; intro K hK; go_big_quiet_op; first | go_big_quiet_on | (refine ⟨_, fun _ => rfl, ?_⟩; go_big_quiet_on)) | (refine sets_skip rfl (fun _ _ _ h => h) ?_; simp only [Act.put, List.setIfInBounds_toArray, List.set_cons_succ, List.set_cons_zero])))
    refine sets_load_blk rfl (fun _ _ _ h => h) _ _ rfl W.heap.size rfl _ (instV ⟨op, form, frm, kind, rd, rs1, rs2, rs3, rm, imm, csr⟩) _ (fun S X _ h => h.1) Try.underlying27 rfl (by kernel_rfl) ?_
    simp only [Act.put, List.setIfInBounds_toArray, List.set_cons_succ, List.set_cons_zero]
    refine sets_callv (.bool false) rfl _ 94 [] [] [_] _ rfl rfl Try.f94 Try.func94 (by kernel_rfl) (by kernel_rfl) [_] rfl (fun S X a1 a2 a3 => ?_) ?_
    · refine (CM.out X).mono ?_
      rintro e X2 ⟨rfl, hbl⟩
      exact ⟨rfl, a3.1.call hbl, a3.2.1.call hbl, a3.2.2.1.call hbl, a3.2.2.2.trans (hbl.mono a3.2.2.2.size)⟩
    simp only [Act.put, List.setIfInBounds_toArray, List.set_cons_succ, List.set_cons_zero]
    (repeat (first | (refine sets_quiet (fun w' => ∃ u, w' = V u) hU.out rfl (fun _ _ _ h => h) rfl ?_; intro K hK; go_big_quiet_op; first | go_big_quiet_on | (refine ⟨_, fun _ => rfl, ?_⟩; go_big_quiet_on)) | (refine sets_skip rfl (fun _ _ _ h => h) ?_; simp only [Act.put, List.setIfInBounds_toArray, List.set_cons_succ, List.set_cons_zero])))
    refine sets_store_blk rfl _ _ _ rfl rfl (W.heap.size + 1) (instV ⟨0, 0, 0, 0, 0, rs1, rs2, 0, 0, imm, 0⟩) rfl rfl 27 (by kernel_rfl) (by simp [Value.oneCell']) ?_ ?_
    · rintro S X a1 _ _ ⟨i1, i2, i3, i4⟩
      exact ⟨⟨_, i3, by cases S 31 <;> rfl⟩, i1.rowOther _ (by omega), i2.rowOther _ (by omega), i3.row _, below_setRow i4 (by omega) _⟩
    (repeat (first | (refine sets_quiet (fun w' => ∃ u, w' = V u) hU.out rfl (fun _ _ _ h => h) rfl ?_; intro K hK; go_big_quiet_op; first | go_big_quiet_on | (refine ⟨_, fun _ => rfl, ?_⟩; go_big_quiet_on)) | (refine sets_skip rfl (fun _ _ _ h => h) ?_; simp only [Act.put, List.setIfInBounds_toArray, List.set_cons_succ, List.set_cons_zero])))
    rintro S X hS ⟨i1, i2, i3, i4⟩
    rw [show S 31 = true from hS 31 (by decide), cond_true] at i3
    clear hU hV k5 k6 ki
    go_wp2
    exact bodyPost_ret (results_c2 rfl _ _ (W.heap.size + 1) _ _ _ rfl i3 Try.underlying27 rfl (by kernel_rfl)) rfl ⟨z, by rw [HC.out]; rfl, fun h => (by rw [HC.out] at h; cases h), LZ.out, i4⟩
  · skip
    have HC : Hid (may8 ⟨op, form, frm, kind, rd, rs1, rs2, rs3, rm, imm, csr⟩ = true) := Lib.hid (by rw [HMAY.out]; rw [decide_eq_true hcase.1, decide_eq_true hcase.2.1, hcase.2.2]; rfl)
    have y1 : decide ((rs1 : Int) < 32) = true := decide_eq_true (by omega)
    have y2 : decide ((rs2 : Int) < 32) = true := decide_eq_true (by omega)
    have CM : Hid (∀ Y, Calls Try.prog 94 #[.agg (instV ⟨op, form, frm, kind, rd, rs1, rs2, rs3, rm, imm, csr⟩)] Y fun e w' => e = .returned (.bool true) ∧ Below Y.heap.size Y w') := Lib.hid fun Y => by have := imm_c Y ⟨op, form, frm, kind, rd, rs1, rs2, rs3, rm, imm, csr⟩; rw [hcase.2.2] at this; exact this
    have HZZ : Hid (z = V8 ⟨op, form, frm, kind, rd, rs1, rs2, rs3, rm, imm, csr⟩) := Lib.hid (HZ.out hcase.1 hcase.2.1)
    clear hcase
    go_enter Try.func97, Try.ntmps97
    go_wp2
    show Code.wp _ _ _ _ (((W.alloc (.cells (instV ⟨op, form, frm, kind, rd, rs1, rs2, rs3, rm, imm, csr⟩) 27)).alloc (.cells (instV zeroI) 27)).alloc (.cells (instV ⟨0, 0, 0, 0, 0, rs1, rs2, 0, 0, imm, 0⟩) 27))
    rw [HA.out]
    refine wp_region_sets_lit (fun S X' => Blk X' W.heap.size (instV ⟨op, form, frm, kind, rd, rs1, rs2, rs3, rm, imm, csr⟩) 27 ∧ Blk X' (W.heap.size + 1 + 1) (instV ⟨0, 0, 0, 0, 0, rs1, rs2, 0, 0, imm, 0⟩) 27 ∧ Blk X' (W.heap.size + 1) (bif S 31 then instV ⟨0, 0, 0, 0, 0, rs1, rs2, 0, 0, imm, 0⟩ else instV zeroI) 27 ∧ Below W.heap.size W X') (by kernel_rfl) (by kernel_rfl) ⟨KI.out, KW.out, KO.out, KB.out.drew⟩ ?_
    obtain ⟨U, V, hV, hU⟩ := worlds (fun S X' => Blk X' W.heap.size (instV ⟨op, form, frm, kind, rd, rs1, rs2, rs3, rm, imm, csr⟩) 27 ∧ Blk X' (W.heap.size + 1 + 1) (instV ⟨0, 0, 0, 0, 0, rs1, rs2, 0, 0, imm, 0⟩) 27 ∧ Blk X' (W.heap.size + 1) (bif S 31 then instV ⟨0, 0, 0, 0, 0, rs1, rs2, 0, 0, imm, 0⟩ else instV zeroI) 27 ∧ Below W.heap.size W X')
    have k5 : ∀ u, (V u).cell? ⟨W.heap.size, 5, none⟩ = some (.int .u8 (rs1 : Nat)) := fun u => by obtain ⟨S, h, _⟩ := hV u; exact h.cell 5
    have k6 : ∀ u, (V u).cell? ⟨W.heap.size, 6, none⟩ = some (.int .u8 (rs2 : Nat)) := fun u => by obtain ⟨S, h, _⟩ := hV u; exact h.cell 6
    have ki : ∀ u, (V u).cell? ⟨ci, 0, none⟩ = some (.func (.func 94) #[] #[]) := fun u => by obtain ⟨S, _, _, _, h⟩ := hV u; exact cell_later' h HI.out
    replace hV := Lib.hid hV
    replace hU := Lib.hid hU
    refine sets_load_blk rfl (fun _ _ _ h => h) _ _ rfl (W.heap.size + 1 + 1) rfl _ (instV ⟨0, 0, 0, 0, 0, rs1, rs2, 0, 0, imm, 0⟩) _ (fun S X _ h => h.2.1) Try.underlying27 rfl (by kernel_rfl) ?_
    simp only [Act.put, List.setIfInBounds_toArray, List.set_cons_succ, List.set_cons_zero]
    (repeat (first | (refine sets_quiet (fun w' => ∃ u, w' = V u) hU.out rfl (fun _ _ _ h => h) rfl ?_; intro K hK; go_big_quiet_op; first | go_big_quiet_on | (refine ⟨_, fun _ => rfl, ?_⟩; go_big_quiet_on)) | (refine sets_skip rfl (fun _ _ _ h => h) ?_; simp only [Act.put, List.setIfInBounds_toArray, List.set_cons_succ, List.set_cons_zero])))
    refine sets_load_blk rfl (fun _ _ _ h => h) _ _ rfl W.heap.size rfl _ (instV ⟨op, form, frm, kind, rd, rs1, rs2, rs3, rm, imm, csr⟩) _ (fun S X _ h => h.1) Try.underlying27 rfl (by kernel_rfl) ?_
    simp only [Act.put, List.setIfInBounds_toArray, List.set_cons_succ, List.set_cons_zero]
    refine sets_callv (.bool true) rfl _ 94 [] [] [_] _ rfl rfl Try.f94 Try.func94 (by kernel_rfl) (by kernel_rfl) [_] rfl (fun S X a1 a2 a3 => ?_) ?_
    · refine (CM.out X).mono ?_
      rintro e X2 ⟨rfl, hbl⟩
      exact ⟨rfl, a3.1.call hbl, a3.2.1.call hbl, a3.2.2.1.call hbl, a3.2.2.2.trans (hbl.mono a3.2.2.2.size)⟩
    simp only [Act.put, List.setIfInBounds_toArray, List.set_cons_succ, List.set_cons_zero]
    (repeat (first | (refine sets_quiet (fun w' => ∃ u, w' = V u) hU.out rfl (fun _ _ _ h => h) rfl ?_; intro K hK; go_big_quiet_op; first | go_big_quiet_on | (refine ⟨_, fun _ => rfl, ?_⟩; go_big_quiet_on)) | (refine sets_skip rfl (fun _ _ _ h => h) ?_; simp only [Act.put, List.setIfInBounds_toArray, List.set_cons_succ, List.set_cons_zero])))
    refine sets_store_blk rfl _ _ _ rfl rfl (W.heap.size + 1) (instV ⟨0, 0, 0, 0, 0, rs1, rs2, 0, 0, imm, 0⟩) rfl rfl 27 (by kernel_rfl) (by simp [Value.oneCell']) ?_ ?_
    · rintro S X a1 _ _ ⟨i1, i2, i3, i4⟩
      exact ⟨⟨_, i3, by cases S 31 <;> rfl⟩, i1.rowOther _ (by omega), i2.rowOther _ (by omega), i3.row _, below_setRow i4 (by omega) _⟩
    (repeat (first | (refine sets_quiet (fun w' => ∃ u, w' = V u) hU.out rfl (fun _ _ _ h => h) rfl ?_; intro K hK; go_big_quiet_op; first | go_big_quiet_on | (refine ⟨_, fun _ => rfl, ?_⟩; go_big_quiet_on)) | (refine sets_skip rfl (fun _ _ _ h => h) ?_; simp only [Act.put, List.setIfInBounds_toArray, List.set_cons_succ, List.set_cons_zero])))
    rintro S X hS ⟨i1, i2, i3, i4⟩
    rw [show S 31 = true from hS 31 (by decide), cond_true] at i3
    clear hU hV k5 k6 ki
    go_wp2
    exact bodyPost_ret (results_c2 rfl _ _ (W.heap.size + 1) _ _ _ rfl i3 Try.underlying27 rfl (by kernel_rfl)) rfl ⟨z, by rw [HC.out]; rfl, fun _ => HZZ.out, LZ.out, i4⟩
end Go.Proofs.Ytaddmgclnbkdgaa
