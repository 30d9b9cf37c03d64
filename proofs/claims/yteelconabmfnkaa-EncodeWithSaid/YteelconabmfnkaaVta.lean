/- Vta: several texts in one. -/
import Derived.Test.YteelconabmfnkaaVpa
import Derived.Test.YteelconabmfnkaaVn
import Derived.Test.YteelconabmfnkaaKka
import Derived.IntWalk
/- abacusref25.Encode: by the layout. -/
namespace Go.Proofs.Yteelconabmfnkaa
open Go Go.RowKit
set_option maxHeartbeats 4000000
set_option maxRecDepth 100000
set_option linter.unusedVariables false
set_option linter.unusedSimpArgs false
theorem renc_1 (W : World) (op form frm kind rd rs1 rs2 rs3 rm : Nat) (imm : Int) (csr : Nat) (rop rform rfrm rkind rmask rmtch : Nat) (hM : MAY ⟨op, form, frm, kind, rd, rs1, rs2, rs3, rm, imm, csr⟩ = true) (ho : OFS op form frm kind = some ⟨rop, rform, rfrm, rkind, rmask, rmtch, 1⟩) (M : Mays 1 ⟨op, form, frm, kind, rd, rs1, rs2, rs3, rm, imm, csr⟩) (v : Nat) (hv : rmtch + FW 1 ⟨op, form, frm, kind, rd, rs1, rs2, rs3, rm, imm, csr⟩ = v) (hlt : v < 4294967296) : Calls Try.prog 26 #[.agg (instV ⟨op, form, frm, kind, rd, rs1, rs2, rs3, rm, imm, csr⟩)] W fun e w' => e = .returned (.tuple #[.int .u32 (v : Nat), .int .i64 0]) ∧ Below W.heap.size W w' := by
  have CM := Lib.hid (fun X => rmay_c X ⟨op, form, frm, kind, rd, rs1, rs2, rs3, rm, imm, csr⟩)
  rw [hM] at CM
  have HC := Lib.hid (rof_is ⟨op, form, frm, kind, rd, rs1, rs2, rs3, rm, imm, csr⟩ (some ⟨rop, rform, rfrm, rkind, rmask, rmtch, 1⟩) ho)
  simp only [] at HC
  have HF : Hid (∀ X, Calls Try.prog 59 #[.int .u8 1] X fun e w' => e = .returned (.agg (hasV ⟨true, false, false, false, true, false⟩)) ∧ Below X.heap.size X w') := Lib.hid (fun X => fields_c X 1 (by decide))
  have h1 : rd < 32 := M.rd
  have h2 : rs1 < 32 := M.rs1
  have h3 : rs2 < 32 := M.rs2
  have h4 : rs3 < 32 := M.rs3
  have h5 : rm < 8 := M.rm
  have h8 : -2048 ≤ imm := M.imm1
  have h9 : imm < 2048 := M.imm2
  have h10 : csr ≤ 3 := M.csr
  simp only [FW] at hv
  obtain ⟨m, hm⟩ : ∃ m, (imm % 4096).toNat = m := ⟨_, rfl⟩
  rw [hm] at hv
  have hm12 : m < 4096 := by omega
  obtain ⟨s0, hs0⟩ : ∃ s, rmtch = s := ⟨_, rfl⟩
  obtain ⟨p0, hp0⟩ : ∃ p, rs1 * 32768 = p := ⟨_, rfl⟩
  have P0 : Hid (∀ X, Calls Try.prog 58 #[.int .i64 15, .int .i64 5, .int .i64 (rs1 : Nat)] X fun e w' => e = .returned (.int .u32 (p0 : Nat)) ∧ w' = X) := Lib.hid fun X => by
    have := put_c X 15 5 rs1 (by omega) (by omega)
    rw [Nat.mod_eq_of_lt (show rs1 < 2 ^ 5 by omega), show rs1 * 2 ^ 15 = p0 from by rw [← hp0]] at this
    exact this
  obtain ⟨s1, hs1⟩ : ∃ s, s0 + p0 = s := ⟨_, rfl⟩
  obtain ⟨p1, hp1⟩ : ∃ p, rd * 128 = p := ⟨_, rfl⟩
  have P1 : Hid (∀ X, Calls Try.prog 58 #[.int .i64 7, .int .i64 5, .int .i64 (rd : Nat)] X fun e w' => e = .returned (.int .u32 (p1 : Nat)) ∧ w' = X) := Lib.hid fun X => by
    have := put_c X 7 5 rd (by omega) (by omega)
    rw [Nat.mod_eq_of_lt (show rd < 2 ^ 5 by omega), show rd * 2 ^ 7 = p1 from by rw [← hp1]] at this
    exact this
  obtain ⟨s2, hs2⟩ : ∃ s, s1 + p1 = s := ⟨_, rfl⟩
  obtain ⟨p2, hp2⟩ : ∃ p, m * 1048576 = p := ⟨_, rfl⟩
  have P2 : Hid (∀ X, Calls Try.prog 58 #[.int .i64 20, .int .i64 12, .int .i64 (m : Nat)] X fun e w' => e = .returned (.int .u32 (p2 : Nat)) ∧ w' = X) := Lib.hid fun X => by
    have := put_c X 20 12 m (by omega) (by omega)
    rw [Nat.mod_eq_of_lt (show m < 2 ^ 12 by omega), show m * 2 ^ 20 = p2 from by rw [← hp2]] at this
    exact this
  obtain ⟨s3, hs3⟩ : ∃ s, s2 + p2 = s := ⟨_, rfl⟩
  have hfin : s3 = v := by omega
  have e0 : ((s0 : Int) + (p0 : Int)) % 4294967296 = ((s1 : Nat) : Int) := by omega
  have e1 : ((s1 : Int) + (p1 : Int)) % 4294967296 = ((s2 : Nat) : Int) := by omega
  have e2 : ((s2 : Int) + (p2 : Int)) % 4294967296 = ((s3 : Nat) : Int) := by omega
  subst hs0
  have K0 := Lib.hid (Blk.new W (instV ⟨op, form, frm, kind, rd, rs1, rs2, rs3, rm, imm, csr⟩) 27)
  have B0 := Lib.hid ((Below.refl W.heap.size W).alloc (Nat.le_refl _) (.cells (instV ⟨op, form, frm, kind, rd, rs1, rs2, rs3, rm, imm, csr⟩) 27))
  by_cases hneg : imm < 0
  · have y1 : decide (imm < 0) = true := decide_eq_true hneg
    have y2 : imm + 4096 = ((m : Nat) : Int) := by omega
    clear hM ho hv hlt M hp0 hp1 hp2 hs1 hs2 hs3 hm12 hm hneg
    go_enter Try.func26, Try.ntmps26
    go_wp2_with (first
      | (go_at_call 27; (with_reducible refine (CM.out _).mono ?_); rintro e w0 ⟨rfl, b0⟩; clear CM; have k0 := K0.out.call b0; have f0 := k0.cell 0; have f1 := k0.cell 1; have f2 := k0.cell 2; have f3 := k0.cell 3; simp only [List.getElem?_toArray, List.getElem?_cons_succ, List.getElem?_cons_zero] at f0 f1 f2 f3)
      | (go_at_call 47; (with_reducible refine (HC.out _).mono ?_); rintro e w1 ⟨⟨rr, nn, c, rfl, rfl, rfl⟩, b1⟩; clear HC f0 f1 f2 f3; have k1 := (k0.call b1).alloc (.cells (entV ⟨rop, rform, rfrm, rkind, rmask, rmtch, 1⟩ nn) 42); have n1 := Blk.new w1 (entV ⟨rop, rform, rfrm, rkind, rmask, rmtch, 1⟩ nn) 42)
      | (refine wpList_load_blk rfl _ _ rfl _ rfl _ _ _ K0.out Try.underlying27 rfl (by kernel_rfl) ?_))
    have d1 := (below_call (below_call B0.out b0) b1).alloc (below_call (below_call B0.out b0) b1).size (.cells (entV ⟨rop, rform, rfrm, rkind, rmask, rmtch, 1⟩ nn) 42)
    show Code.wp _ _ _ _ (w1.alloc (.cells (entV ⟨rop, rform, rfrm, rkind, rmask, rmtch, 1⟩ nn) 42))
    obtain ⟨V, hV⟩ : ∃ V, w1.alloc (.cells (entV ⟨rop, rform, rfrm, rkind, rmask, rmtch, 1⟩ nn) 42) = V := ⟨_, rfl⟩
    obtain ⟨gb, hgb⟩ : ∃ gb, w1.heap.size = gb := ⟨_, rfl⟩
    rw [hV] at k1 n1 d1 ⊢
    rw [hgb] at n1 ⊢
    clear hV hgb b1 k0
    have n5 := n1.cell 5
    have c5 := k1.cell 5
    have n6 := n1.cell 6
    simp only [List.getElem?_toArray, List.getElem?_cons_succ, List.getElem?_cons_zero] at n5 n6 c5
    have eW : IntKind.u32.wrap ((rmtch : Int) + (p0 : Int)) = ((s1 : Nat) : Int) := by have := e0; simp only [IntKind.wrap, IntKind.signed, IntKind.bits]; simpa using this
    refine wp_region_sets_lit (fun _ w' => ∃ q, w' = V.drewN q) (by kernel_rfl) (by kernel_rfl) ⟨1, rfl⟩ ?_
    (repeat (first | (refine sets_quiet (fun w' => ∃ q, w' = V.drewN q) (fun _ _ h => h) rfl (fun _ _ _ h => h) rfl ?_; intro K hK; go_big_quiet_op; first | go_big_quiet_on | (refine ⟨_, fun _ => rfl, ?_⟩; go_big_quiet_on)) | (refine sets_nil rfl (fun _ _ _ h => h) _ rfl _ rfl ?_; simp only [Act.put, List.setIfInBounds_toArray, List.set_cons_succ, List.set_cons_zero]) | (refine sets_skip rfl (fun _ _ _ h => h) ?_; simp only [Act.put, List.setIfInBounds_toArray, List.set_cons_succ, List.set_cons_zero])))
    refine sets_call (.int .u32 (p0 : Nat)) rfl 58 [_, _, _] _ rfl Try.f58 Try.func58 (by kernel_rfl) (by kernel_rfl) [.int .i64 15, .int .i64 5, .int .i64 (rs1 : Nat)] rfl (fun S X h1 h2 h3 => ?_) ?_
    · refine (P0.out X).mono ?_
      rintro e X2 ⟨rfl, rfl⟩
      exact ⟨rfl, h3⟩
    simp only [Act.put, List.setIfInBounds_toArray, List.set_cons_succ, List.set_cons_zero]
    (repeat (first | (refine sets_quiet (fun w' => ∃ q, w' = V.drewN q) (fun _ _ h => h) rfl (fun _ _ _ h => h) rfl ?_; intro K hK; go_big_quiet_op; first | go_big_quiet_on | (refine ⟨_, fun _ => rfl, ?_⟩; go_big_quiet_on)) | (refine sets_nil rfl (fun _ _ _ h => h) _ rfl _ rfl ?_; simp only [Act.put, List.setIfInBounds_toArray, List.set_cons_succ, List.set_cons_zero]) | (refine sets_skip rfl (fun _ _ _ h => h) ?_; simp only [Act.put, List.setIfInBounds_toArray, List.set_cons_succ, List.set_cons_zero])))
    rintro S _ _ ⟨nq, rfl⟩
    have HFIN := Lib.hid hfin
    clear eW hfin e0 P0 n5 c5
    go_upto_region 6 with (first
      | (go_at_call 59; (with_reducible refine (HF.out _).mono ?_); rintro e w2 ⟨rfl, b2⟩; clear HF n6; have kx := ((k1.drewN nq).call b2).alloc (.cells (hasV ⟨true, false, false, false, true, false⟩) 106); have nx := ((n1.drewN nq).call b2).alloc (.cells (hasV ⟨true, false, false, false, true, false⟩) 106); have kh := Blk.new w2 (hasV ⟨true, false, false, false, true, false⟩) 106; have d2 := below_call (below_drewN d1) b2; have d3 := d2.alloc d2.size (.cells (hasV ⟨true, false, false, false, true, false⟩) 106)))
    obtain ⟨V2, hV2⟩ : ∃ V2, w2.alloc (.cells (hasV ⟨true, false, false, false, true, false⟩) 106) = V2 := ⟨_, rfl⟩
    obtain ⟨hb, hhb⟩ : ∃ hb, w2.heap.size = hb := ⟨_, rfl⟩
    show Code.wp _ _ _ _ (w2.alloc (.cells (hasV ⟨true, false, false, false, true, false⟩) 106))
    rw [hV2] at kx nx kh d3 ⊢
    rw [hhb] at kh ⊢
    clear hV2 hhb d2 b2 d1 k1 n1 K0 B0
    have n6 := nx.cell 6
    have c5 := kx.cell 5
    have c4 := kx.cell 4
    have c9 := kx.cell 9
    have g0 := kh.cell 0
    have g1 := kh.cell 1
    have g2 := kh.cell 2
    have g3 := kh.cell 3
    have g4 := kh.cell 4
    have g5 := kh.cell 5
    simp only [List.getElem?_toArray, List.getElem?_cons_succ, List.getElem?_cons_zero] at n6 c5 c4 c9 g0 g1 g2 g3 g4 g5
    clear kx nx kh
    go_wp2_with (first
      | (go_at_call 58; (with_reducible refine (P1.out _).mono ?_); rintro e w3 ⟨rfl, rfl⟩)
      | (go_at_call 58; (with_reducible refine (P2.out _).mono ?_); rintro e w3 ⟨rfl, rfl⟩))
    go_ret2
    refine ⟨?_, d3⟩
    show Ending.returned (.tuple #[.int .u32 (((s2 : Int) + (p2 : Int)) % 4294967296), .int .i64 0]) = _
    rw [e2, HFIN.out]
  · have y1 : decide (imm < 0) = false := decide_eq_false hneg
    have y2 : imm = ((m : Nat) : Int) := by omega
    subst y2
    clear hM ho hv hlt M hp0 hp1 hp2 hs1 hs2 hs3 hm12 hm hneg
    go_enter Try.func26, Try.ntmps26
    go_wp2_with (first
      | (go_at_call 27; (with_reducible refine (CM.out _).mono ?_); rintro e w0 ⟨rfl, b0⟩; clear CM; have k0 := K0.out.call b0; have f0 := k0.cell 0; have f1 := k0.cell 1; have f2 := k0.cell 2; have f3 := k0.cell 3; simp only [List.getElem?_toArray, List.getElem?_cons_succ, List.getElem?_cons_zero] at f0 f1 f2 f3)
      | (go_at_call 47; (with_reducible refine (HC.out _).mono ?_); rintro e w1 ⟨⟨rr, nn, c, rfl, rfl, rfl⟩, b1⟩; clear HC f0 f1 f2 f3; have k1 := (k0.call b1).alloc (.cells (entV ⟨rop, rform, rfrm, rkind, rmask, rmtch, 1⟩ nn) 42); have n1 := Blk.new w1 (entV ⟨rop, rform, rfrm, rkind, rmask, rmtch, 1⟩ nn) 42)
      | (refine wpList_load_blk rfl _ _ rfl _ rfl _ _ _ K0.out Try.underlying27 rfl (by kernel_rfl) ?_))
    have d1 := (below_call (below_call B0.out b0) b1).alloc (below_call (below_call B0.out b0) b1).size (.cells (entV ⟨rop, rform, rfrm, rkind, rmask, rmtch, 1⟩ nn) 42)
    show Code.wp _ _ _ _ (w1.alloc (.cells (entV ⟨rop, rform, rfrm, rkind, rmask, rmtch, 1⟩ nn) 42))
    obtain ⟨V, hV⟩ : ∃ V, w1.alloc (.cells (entV ⟨rop, rform, rfrm, rkind, rmask, rmtch, 1⟩ nn) 42) = V := ⟨_, rfl⟩
    obtain ⟨gb, hgb⟩ : ∃ gb, w1.heap.size = gb := ⟨_, rfl⟩
    rw [hV] at k1 n1 d1 ⊢
    rw [hgb] at n1 ⊢
    clear hV hgb b1 k0
    have n5 := n1.cell 5
    have c5 := k1.cell 5
    have n6 := n1.cell 6
    simp only [List.getElem?_toArray, List.getElem?_cons_succ, List.getElem?_cons_zero] at n5 n6 c5
    have eW : IntKind.u32.wrap ((rmtch : Int) + (p0 : Int)) = ((s1 : Nat) : Int) := by have := e0; simp only [IntKind.wrap, IntKind.signed, IntKind.bits]; simpa using this
    refine wp_region_sets_lit (fun _ w' => ∃ q, w' = V.drewN q) (by kernel_rfl) (by kernel_rfl) ⟨1, rfl⟩ ?_
    (repeat (first | (refine sets_quiet (fun w' => ∃ q, w' = V.drewN q) (fun _ _ h => h) rfl (fun _ _ _ h => h) rfl ?_; intro K hK; go_big_quiet_op; first | go_big_quiet_on | (refine ⟨_, fun _ => rfl, ?_⟩; go_big_quiet_on)) | (refine sets_nil rfl (fun _ _ _ h => h) _ rfl _ rfl ?_; simp only [Act.put, List.setIfInBounds_toArray, List.set_cons_succ, List.set_cons_zero]) | (refine sets_skip rfl (fun _ _ _ h => h) ?_; simp only [Act.put, List.setIfInBounds_toArray, List.set_cons_succ, List.set_cons_zero])))
    refine sets_call (.int .u32 (p0 : Nat)) rfl 58 [_, _, _] _ rfl Try.f58 Try.func58 (by kernel_rfl) (by kernel_rfl) [.int .i64 15, .int .i64 5, .int .i64 (rs1 : Nat)] rfl (fun S X h1 h2 h3 => ?_) ?_
    · refine (P0.out X).mono ?_
      rintro e X2 ⟨rfl, rfl⟩
      exact ⟨rfl, h3⟩
    simp only [Act.put, List.setIfInBounds_toArray, List.set_cons_succ, List.set_cons_zero]
    (repeat (first | (refine sets_quiet (fun w' => ∃ q, w' = V.drewN q) (fun _ _ h => h) rfl (fun _ _ _ h => h) rfl ?_; intro K hK; go_big_quiet_op; first | go_big_quiet_on | (refine ⟨_, fun _ => rfl, ?_⟩; go_big_quiet_on)) | (refine sets_nil rfl (fun _ _ _ h => h) _ rfl _ rfl ?_; simp only [Act.put, List.setIfInBounds_toArray, List.set_cons_succ, List.set_cons_zero]) | (refine sets_skip rfl (fun _ _ _ h => h) ?_; simp only [Act.put, List.setIfInBounds_toArray, List.set_cons_succ, List.set_cons_zero])))
    rintro S _ _ ⟨nq, rfl⟩
    have HFIN := Lib.hid hfin
    clear eW hfin e0 P0 n5 c5
    go_upto_region 6 with (first
      | (go_at_call 59; (with_reducible refine (HF.out _).mono ?_); rintro e w2 ⟨rfl, b2⟩; clear HF n6; have kx := ((k1.drewN nq).call b2).alloc (.cells (hasV ⟨true, false, false, false, true, false⟩) 106); have nx := ((n1.drewN nq).call b2).alloc (.cells (hasV ⟨true, false, false, false, true, false⟩) 106); have kh := Blk.new w2 (hasV ⟨true, false, false, false, true, false⟩) 106; have d2 := below_call (below_drewN d1) b2; have d3 := d2.alloc d2.size (.cells (hasV ⟨true, false, false, false, true, false⟩) 106)))
    obtain ⟨V2, hV2⟩ : ∃ V2, w2.alloc (.cells (hasV ⟨true, false, false, false, true, false⟩) 106) = V2 := ⟨_, rfl⟩
    obtain ⟨hb, hhb⟩ : ∃ hb, w2.heap.size = hb := ⟨_, rfl⟩
    show Code.wp _ _ _ _ (w2.alloc (.cells (hasV ⟨true, false, false, false, true, false⟩) 106))
    rw [hV2] at kx nx kh d3 ⊢
    rw [hhb] at kh ⊢
    clear hV2 hhb d2 b2 d1 k1 n1 K0 B0
    have n6 := nx.cell 6
    have c5 := kx.cell 5
    have c4 := kx.cell 4
    have c9 := kx.cell 9
    have g0 := kh.cell 0
    have g1 := kh.cell 1
    have g2 := kh.cell 2
    have g3 := kh.cell 3
    have g4 := kh.cell 4
    have g5 := kh.cell 5
    simp only [List.getElem?_toArray, List.getElem?_cons_succ, List.getElem?_cons_zero] at n6 c5 c4 c9 g0 g1 g2 g3 g4 g5
    clear kx nx kh
    go_wp2_with (first
      | (go_at_call 58; (with_reducible refine (P1.out _).mono ?_); rintro e w3 ⟨rfl, rfl⟩)
      | (go_at_call 58; (with_reducible refine (P2.out _).mono ?_); rintro e w3 ⟨rfl, rfl⟩))
    go_ret2
    refine ⟨?_, d3⟩
    show Ending.returned (.tuple #[.int .u32 (((s2 : Int) + (p2 : Int)) % 4294967296), .int .i64 0]) = _
    rw [e2, HFIN.out]
theorem renc_2 (W : World) (op form frm kind rd rs1 rs2 rs3 rm : Nat) (imm : Int) (csr : Nat) (rop rform rfrm rkind rmask rmtch : Nat) (hM : MAY ⟨op, form, frm, kind, rd, rs1, rs2, rs3, rm, imm, csr⟩ = true) (ho : OFS op form frm kind = some ⟨rop, rform, rfrm, rkind, rmask, rmtch, 2⟩) (M : Mays 2 ⟨op, form, frm, kind, rd, rs1, rs2, rs3, rm, imm, csr⟩) (v : Nat) (hv : rmtch + FW 2 ⟨op, form, frm, kind, rd, rs1, rs2, rs3, rm, imm, csr⟩ = v) (hlt : v < 4294967296) : Calls Try.prog 26 #[.agg (instV ⟨op, form, frm, kind, rd, rs1, rs2, rs3, rm, imm, csr⟩)] W fun e w' => e = .returned (.tuple #[.int .u32 (v : Nat), .int .i64 0]) ∧ Below W.heap.size W w' := by
  have CM := Lib.hid (fun X => rmay_c X ⟨op, form, frm, kind, rd, rs1, rs2, rs3, rm, imm, csr⟩)
  rw [hM] at CM
  have HC := Lib.hid (rof_is ⟨op, form, frm, kind, rd, rs1, rs2, rs3, rm, imm, csr⟩ (some ⟨rop, rform, rfrm, rkind, rmask, rmtch, 2⟩) ho)
  simp only [] at HC
  have HF : Hid (∀ X, Calls Try.prog 59 #[.int .u8 2] X fun e w' => e = .returned (.agg (hasV ⟨false, true, false, false, true, false⟩)) ∧ Below X.heap.size X w') := Lib.hid (fun X => fields_c X 2 (by decide))
  have h1 : rd < 32 := M.rd
  have h2 : rs1 < 32 := M.rs1
  have h3 : rs2 < 32 := M.rs2
  have h4 : rs3 < 32 := M.rs3
  have h5 : rm < 8 := M.rm
  have h8 : -2048 ≤ imm := M.imm1
  have h9 : imm < 2048 := M.imm2
  have h10 : csr ≤ 3 := M.csr
  simp only [FW] at hv
  obtain ⟨m, hm⟩ : ∃ m, (imm % 4096).toNat = m := ⟨_, rfl⟩
  rw [hm] at hv
  have hm12 : m < 4096 := by omega
  obtain ⟨mh, hmh⟩ : ∃ mh, m / 32 = mh := ⟨_, rfl⟩
  obtain ⟨ml, hml⟩ : ∃ ml, m % 32 = ml := ⟨_, rfl⟩
  rw [hmh, hml] at hv
  obtain ⟨s0, hs0⟩ : ∃ s, rmtch = s := ⟨_, rfl⟩
  obtain ⟨p0, hp0⟩ : ∃ p, rs1 * 32768 = p := ⟨_, rfl⟩
  have P0 : Hid (∀ X, Calls Try.prog 58 #[.int .i64 15, .int .i64 5, .int .i64 (rs1 : Nat)] X fun e w' => e = .returned (.int .u32 (p0 : Nat)) ∧ w' = X) := Lib.hid fun X => by
    have := put_c X 15 5 rs1 (by omega) (by omega)
    rw [Nat.mod_eq_of_lt (show rs1 < 2 ^ 5 by omega), show rs1 * 2 ^ 15 = p0 from by rw [← hp0]] at this
    exact this
  obtain ⟨s1, hs1⟩ : ∃ s, s0 + p0 = s := ⟨_, rfl⟩
  obtain ⟨p1, hp1⟩ : ∃ p, rs2 * 1048576 = p := ⟨_, rfl⟩
  have P1 : Hid (∀ X, Calls Try.prog 58 #[.int .i64 20, .int .i64 5, .int .i64 (rs2 : Nat)] X fun e w' => e = .returned (.int .u32 (p1 : Nat)) ∧ w' = X) := Lib.hid fun X => by
    have := put_c X 20 5 rs2 (by omega) (by omega)
    rw [Nat.mod_eq_of_lt (show rs2 < 2 ^ 5 by omega), show rs2 * 2 ^ 20 = p1 from by rw [← hp1]] at this
    exact this
  obtain ⟨s2, hs2⟩ : ∃ s, s1 + p1 = s := ⟨_, rfl⟩
  obtain ⟨p2, hp2⟩ : ∃ p, mh * 33554432 = p := ⟨_, rfl⟩
  have P2 : Hid (∀ X, Calls Try.prog 58 #[.int .i64 25, .int .i64 7, .int .i64 (mh : Nat)] X fun e w' => e = .returned (.int .u32 (p2 : Nat)) ∧ w' = X) := Lib.hid fun X => by
    have := put_c X 25 7 mh (by omega) (by omega)
    rw [Nat.mod_eq_of_lt (show mh < 2 ^ 7 by omega), show mh * 2 ^ 25 = p2 from by rw [← hp2]] at this
    exact this
  obtain ⟨s3, hs3⟩ : ∃ s, s2 + p2 = s := ⟨_, rfl⟩
  obtain ⟨p3, hp3⟩ : ∃ p, ml * 128 = p := ⟨_, rfl⟩
  have P3 : Hid (∀ X, Calls Try.prog 58 #[.int .i64 7, .int .i64 5, .int .i64 (ml : Nat)] X fun e w' => e = .returned (.int .u32 (p3 : Nat)) ∧ w' = X) := Lib.hid fun X => by
    have := put_c X 7 5 ml (by omega) (by omega)
    rw [Nat.mod_eq_of_lt (show ml < 2 ^ 5 by omega), show ml * 2 ^ 7 = p3 from by rw [← hp3]] at this
    exact this
  obtain ⟨s4, hs4⟩ : ∃ s, s3 + p3 = s := ⟨_, rfl⟩
  have hfin : s4 = v := by omega
  have e0 : ((s0 : Int) + (p0 : Int)) % 4294967296 = ((s1 : Nat) : Int) := by omega
  have e1 : ((s1 : Int) + (p1 : Int)) % 4294967296 = ((s2 : Nat) : Int) := by omega
  have e2 : ((s2 : Int) + (p2 : Int)) % 4294967296 = ((s3 : Nat) : Int) := by omega
  have e3 : ((s3 : Int) + (p3 : Int)) % 4294967296 = ((s4 : Nat) : Int) := by omega
  subst hs0
  have d1 : (m : Int).tdiv 32 = ((mh : Nat) : Int) := by rw [Int.tdiv_eq_ediv_of_nonneg (by omega)]; omega
  have d2 : (m : Int).tmod 32 = ((ml : Nat) : Int) := by rw [Int.tmod_eq_emod_of_nonneg (by omega)]; omega
  have d3 : (m : Int) / 32 = ((mh : Nat) : Int) := by omega
  have d4 : (m : Int) % 32 = ((ml : Nat) : Int) := by omega
  have K0 := Lib.hid (Blk.new W (instV ⟨op, form, frm, kind, rd, rs1, rs2, rs3, rm, imm, csr⟩) 27)
  have B0 := Lib.hid ((Below.refl W.heap.size W).alloc (Nat.le_refl _) (.cells (instV ⟨op, form, frm, kind, rd, rs1, rs2, rs3, rm, imm, csr⟩) 27))
  by_cases hneg : imm < 0
  · have y1 : decide (imm < 0) = true := decide_eq_true hneg
    have y2 : imm + 4096 = ((m : Nat) : Int) := by omega
    clear hM ho hv hlt M hp0 hp1 hp2 hp3 hs1 hs2 hs3 hs4 hmh hml hm12 hm hneg
    go_enter Try.func26, Try.ntmps26
    go_wp2_with (first
      | (go_at_call 27; (with_reducible refine (CM.out _).mono ?_); rintro e w0 ⟨rfl, b0⟩; clear CM; have k0 := K0.out.call b0; have f0 := k0.cell 0; have f1 := k0.cell 1; have f2 := k0.cell 2; have f3 := k0.cell 3; simp only [List.getElem?_toArray, List.getElem?_cons_succ, List.getElem?_cons_zero] at f0 f1 f2 f3)
      | (go_at_call 47; (with_reducible refine (HC.out _).mono ?_); rintro e w1 ⟨⟨rr, nn, c, rfl, rfl, rfl⟩, b1⟩; clear HC f0 f1 f2 f3; have k1 := (k0.call b1).alloc (.cells (entV ⟨rop, rform, rfrm, rkind, rmask, rmtch, 2⟩ nn) 42); have n1 := Blk.new w1 (entV ⟨rop, rform, rfrm, rkind, rmask, rmtch, 2⟩ nn) 42)
      | (refine wpList_load_blk rfl _ _ rfl _ rfl _ _ _ K0.out Try.underlying27 rfl (by kernel_rfl) ?_))
    have d1 := (below_call (below_call B0.out b0) b1).alloc (below_call (below_call B0.out b0) b1).size (.cells (entV ⟨rop, rform, rfrm, rkind, rmask, rmtch, 2⟩ nn) 42)
    show Code.wp _ _ _ _ (w1.alloc (.cells (entV ⟨rop, rform, rfrm, rkind, rmask, rmtch, 2⟩ nn) 42))
    obtain ⟨V, hV⟩ : ∃ V, w1.alloc (.cells (entV ⟨rop, rform, rfrm, rkind, rmask, rmtch, 2⟩ nn) 42) = V := ⟨_, rfl⟩
    obtain ⟨gb, hgb⟩ : ∃ gb, w1.heap.size = gb := ⟨_, rfl⟩
    rw [hV] at k1 n1 d1 ⊢
    rw [hgb] at n1 ⊢
    clear hV hgb b1 k0
    have n5 := n1.cell 5
    have c5 := k1.cell 5
    have n6 := n1.cell 6
    simp only [List.getElem?_toArray, List.getElem?_cons_succ, List.getElem?_cons_zero] at n5 n6 c5
    have eW : IntKind.u32.wrap ((rmtch : Int) + (p0 : Int)) = ((s1 : Nat) : Int) := by have := e0; simp only [IntKind.wrap, IntKind.signed, IntKind.bits]; simpa using this
    refine wp_region_sets_lit (fun _ w' => ∃ q, w' = V.drewN q) (by kernel_rfl) (by kernel_rfl) ⟨1, rfl⟩ ?_
    (repeat (first | (refine sets_quiet (fun w' => ∃ q, w' = V.drewN q) (fun _ _ h => h) rfl (fun _ _ _ h => h) rfl ?_; intro K hK; go_big_quiet_op; first | go_big_quiet_on | (refine ⟨_, fun _ => rfl, ?_⟩; go_big_quiet_on)) | (refine sets_nil rfl (fun _ _ _ h => h) _ rfl _ rfl ?_; simp only [Act.put, List.setIfInBounds_toArray, List.set_cons_succ, List.set_cons_zero]) | (refine sets_skip rfl (fun _ _ _ h => h) ?_; simp only [Act.put, List.setIfInBounds_toArray, List.set_cons_succ, List.set_cons_zero])))
    refine sets_call (.int .u32 (p0 : Nat)) rfl 58 [_, _, _] _ rfl Try.f58 Try.func58 (by kernel_rfl) (by kernel_rfl) [.int .i64 15, .int .i64 5, .int .i64 (rs1 : Nat)] rfl (fun S X h1 h2 h3 => ?_) ?_
    · refine (P0.out X).mono ?_
      rintro e X2 ⟨rfl, rfl⟩
      exact ⟨rfl, h3⟩
    simp only [Act.put, List.setIfInBounds_toArray, List.set_cons_succ, List.set_cons_zero]
    (repeat (first | (refine sets_quiet (fun w' => ∃ q, w' = V.drewN q) (fun _ _ h => h) rfl (fun _ _ _ h => h) rfl ?_; intro K hK; go_big_quiet_op; first | go_big_quiet_on | (refine ⟨_, fun _ => rfl, ?_⟩; go_big_quiet_on)) | (refine sets_nil rfl (fun _ _ _ h => h) _ rfl _ rfl ?_; simp only [Act.put, List.setIfInBounds_toArray, List.set_cons_succ, List.set_cons_zero]) | (refine sets_skip rfl (fun _ _ _ h => h) ?_; simp only [Act.put, List.setIfInBounds_toArray, List.set_cons_succ, List.set_cons_zero])))
    rintro S _ _ ⟨nq, rfl⟩
    have HFIN := Lib.hid hfin
    clear eW hfin e0 P0 n5 c5
    go_upto_region 6 with (first
      | (go_at_call 59; (with_reducible refine (HF.out _).mono ?_); rintro e w2 ⟨rfl, b2⟩; clear HF n6; have kx := ((k1.drewN nq).call b2).alloc (.cells (hasV ⟨false, true, false, false, true, false⟩) 106); have nx := ((n1.drewN nq).call b2).alloc (.cells (hasV ⟨false, true, false, false, true, false⟩) 106); have kh := Blk.new w2 (hasV ⟨false, true, false, false, true, false⟩) 106; have d2 := below_call (below_drewN d1) b2; have d3 := d2.alloc d2.size (.cells (hasV ⟨false, true, false, false, true, false⟩) 106)))
    obtain ⟨V2, hV2⟩ : ∃ V2, w2.alloc (.cells (hasV ⟨false, true, false, false, true, false⟩) 106) = V2 := ⟨_, rfl⟩
    obtain ⟨hb, hhb⟩ : ∃ hb, w2.heap.size = hb := ⟨_, rfl⟩
    show Code.wp _ _ _ _ (w2.alloc (.cells (hasV ⟨false, true, false, false, true, false⟩) 106))
    rw [hV2] at kx nx kh d3 ⊢
    rw [hhb] at kh ⊢
    clear hV2 hhb d2 b2 d1 k1 n1 K0 B0
    have n6 := nx.cell 6
    have c5 := kx.cell 5
    have c6 := kx.cell 6
    have c9 := kx.cell 9
    have g0 := kh.cell 0
    have g1 := kh.cell 1
    have g2 := kh.cell 2
    have g3 := kh.cell 3
    have g4 := kh.cell 4
    have g5 := kh.cell 5
    simp only [List.getElem?_toArray, List.getElem?_cons_succ, List.getElem?_cons_zero] at n6 c5 c6 c9 g0 g1 g2 g3 g4 g5
    clear kx nx kh
    go_wp2_with (first
      | (go_at_call 58; (with_reducible refine (P1.out _).mono ?_); rintro e w3 ⟨rfl, rfl⟩)
      | (go_at_call 58; (with_reducible refine (P2.out _).mono ?_); rintro e w3 ⟨rfl, rfl⟩)
      | (go_at_call 58; (with_reducible refine (P3.out _).mono ?_); rintro e w3 ⟨rfl, rfl⟩))
    go_ret2
    refine ⟨?_, d3⟩
    show Ending.returned (.tuple #[.int .u32 (((s3 : Int) + (p3 : Int)) % 4294967296), .int .i64 0]) = _
    rw [e3, HFIN.out]
  · have y1 : decide (imm < 0) = false := decide_eq_false hneg
    have y2 : imm = ((m : Nat) : Int) := by omega
    subst y2
    clear hM ho hv hlt M hp0 hp1 hp2 hp3 hs1 hs2 hs3 hs4 hmh hml hm12 hm hneg
    go_enter Try.func26, Try.ntmps26
    go_wp2_with (first
      | (go_at_call 27; (with_reducible refine (CM.out _).mono ?_); rintro e w0 ⟨rfl, b0⟩; clear CM; have k0 := K0.out.call b0; have f0 := k0.cell 0; have f1 := k0.cell 1; have f2 := k0.cell 2; have f3 := k0.cell 3; simp only [List.getElem?_toArray, List.getElem?_cons_succ, List.getElem?_cons_zero] at f0 f1 f2 f3)
      | (go_at_call 47; (with_reducible refine (HC.out _).mono ?_); rintro e w1 ⟨⟨rr, nn, c, rfl, rfl, rfl⟩, b1⟩; clear HC f0 f1 f2 f3; have k1 := (k0.call b1).alloc (.cells (entV ⟨rop, rform, rfrm, rkind, rmask, rmtch, 2⟩ nn) 42); have n1 := Blk.new w1 (entV ⟨rop, rform, rfrm, rkind, rmask, rmtch, 2⟩ nn) 42)
      | (refine wpList_load_blk rfl _ _ rfl _ rfl _ _ _ K0.out Try.underlying27 rfl (by kernel_rfl) ?_))
    have d1 := (below_call (below_call B0.out b0) b1).alloc (below_call (below_call B0.out b0) b1).size (.cells (entV ⟨rop, rform, rfrm, rkind, rmask, rmtch, 2⟩ nn) 42)
    show Code.wp _ _ _ _ (w1.alloc (.cells (entV ⟨rop, rform, rfrm, rkind, rmask, rmtch, 2⟩ nn) 42))
    obtain ⟨V, hV⟩ : ∃ V, w1.alloc (.cells (entV ⟨rop, rform, rfrm, rkind, rmask, rmtch, 2⟩ nn) 42) = V := ⟨_, rfl⟩
    obtain ⟨gb, hgb⟩ : ∃ gb, w1.heap.size = gb := ⟨_, rfl⟩
    rw [hV] at k1 n1 d1 ⊢
    rw [hgb] at n1 ⊢
    clear hV hgb b1 k0
    have n5 := n1.cell 5
    have c5 := k1.cell 5
    have n6 := n1.cell 6
    simp only [List.getElem?_toArray, List.getElem?_cons_succ, List.getElem?_cons_zero] at n5 n6 c5
    have eW : IntKind.u32.wrap ((rmtch : Int) + (p0 : Int)) = ((s1 : Nat) : Int) := by have := e0; simp only [IntKind.wrap, IntKind.signed, IntKind.bits]; simpa using this
    refine wp_region_sets_lit (fun _ w' => ∃ q, w' = V.drewN q) (by kernel_rfl) (by kernel_rfl) ⟨1, rfl⟩ ?_
    (repeat (first | (refine sets_quiet (fun w' => ∃ q, w' = V.drewN q) (fun _ _ h => h) rfl (fun _ _ _ h => h) rfl ?_; intro K hK; go_big_quiet_op; first | go_big_quiet_on | (refine ⟨_, fun _ => rfl, ?_⟩; go_big_quiet_on)) | (refine sets_nil rfl (fun _ _ _ h => h) _ rfl _ rfl ?_; simp only [Act.put, List.setIfInBounds_toArray, List.set_cons_succ, List.set_cons_zero]) | (refine sets_skip rfl (fun _ _ _ h => h) ?_; simp only [Act.put, List.setIfInBounds_toArray, List.set_cons_succ, List.set_cons_zero])))
    refine sets_call (.int .u32 (p0 : Nat)) rfl 58 [_, _, _] _ rfl Try.f58 Try.func58 (by kernel_rfl) (by kernel_rfl) [.int .i64 15, .int .i64 5, .int .i64 (rs1 : Nat)] rfl (fun S X h1 h2 h3 => ?_) ?_
    · refine (P0.out X).mono ?_
      rintro e X2 ⟨rfl, rfl⟩
      exact ⟨rfl, h3⟩
    simp only [Act.put, List.setIfInBounds_toArray, List.set_cons_succ, List.set_cons_zero]
    (repeat (first | (refine sets_quiet (fun w' => ∃ q, w' = V.drewN q) (fun _ _ h => h) rfl (fun _ _ _ h => h) rfl ?_; intro K hK; go_big_quiet_op; first | go_big_quiet_on | (refine ⟨_, fun _ => rfl, ?_⟩; go_big_quiet_on)) | (refine sets_nil rfl (fun _ _ _ h => h) _ rfl _ rfl ?_; simp only [Act.put, List.setIfInBounds_toArray, List.set_cons_succ, List.set_cons_zero]) | (refine sets_skip rfl (fun _ _ _ h => h) ?_; simp only [Act.put, List.setIfInBounds_toArray, List.set_cons_succ, List.set_cons_zero])))
    rintro S _ _ ⟨nq, rfl⟩
    have HFIN := Lib.hid hfin
    clear eW hfin e0 P0 n5 c5
    go_upto_region 6 with (first
      | (go_at_call 59; (with_reducible refine (HF.out _).mono ?_); rintro e w2 ⟨rfl, b2⟩; clear HF n6; have kx := ((k1.drewN nq).call b2).alloc (.cells (hasV ⟨false, true, false, false, true, false⟩) 106); have nx := ((n1.drewN nq).call b2).alloc (.cells (hasV ⟨false, true, false, false, true, false⟩) 106); have kh := Blk.new w2 (hasV ⟨false, true, false, false, true, false⟩) 106; have d2 := below_call (below_drewN d1) b2; have d3 := d2.alloc d2.size (.cells (hasV ⟨false, true, false, false, true, false⟩) 106)))
    obtain ⟨V2, hV2⟩ : ∃ V2, w2.alloc (.cells (hasV ⟨false, true, false, false, true, false⟩) 106) = V2 := ⟨_, rfl⟩
    obtain ⟨hb, hhb⟩ : ∃ hb, w2.heap.size = hb := ⟨_, rfl⟩
    show Code.wp _ _ _ _ (w2.alloc (.cells (hasV ⟨false, true, false, false, true, false⟩) 106))
    rw [hV2] at kx nx kh d3 ⊢
    rw [hhb] at kh ⊢
    clear hV2 hhb d2 b2 d1 k1 n1 K0 B0
    have n6 := nx.cell 6
    have c5 := kx.cell 5
    have c6 := kx.cell 6
    have c9 := kx.cell 9
    have g0 := kh.cell 0
    have g1 := kh.cell 1
    have g2 := kh.cell 2
    have g3 := kh.cell 3
    have g4 := kh.cell 4
    have g5 := kh.cell 5
    simp only [List.getElem?_toArray, List.getElem?_cons_succ, List.getElem?_cons_zero] at n6 c5 c6 c9 g0 g1 g2 g3 g4 g5
    clear kx nx kh
    go_wp2_with (first
      | (go_at_call 58; (with_reducible refine (P1.out _).mono ?_); rintro e w3 ⟨rfl, rfl⟩)
      | (go_at_call 58; (with_reducible refine (P2.out _).mono ?_); rintro e w3 ⟨rfl, rfl⟩)
      | (go_at_call 58; (with_reducible refine (P3.out _).mono ?_); rintro e w3 ⟨rfl, rfl⟩))
    go_ret2
    refine ⟨?_, d3⟩
    show Ending.returned (.tuple #[.int .u32 (((s3 : Int) + (p3 : Int)) % 4294967296), .int .i64 0]) = _
    rw [e3, HFIN.out]
theorem renc_3 (W : World) (op form frm kind rd rs1 rs2 rs3 rm : Nat) (imm : Int) (csr : Nat) (rop rform rfrm rkind rmask rmtch : Nat) (hM : MAY ⟨op, form, frm, kind, rd, rs1, rs2, rs3, rm, imm, csr⟩ = true) (ho : OFS op form frm kind = some ⟨rop, rform, rfrm, rkind, rmask, rmtch, 3⟩) (M : Mays 3 ⟨op, form, frm, kind, rd, rs1, rs2, rs3, rm, imm, csr⟩) (v : Nat) (hv : rmtch + FW 3 ⟨op, form, frm, kind, rd, rs1, rs2, rs3, rm, imm, csr⟩ = v) (hlt : v < 4294967296) : Calls Try.prog 26 #[.agg (instV ⟨op, form, frm, kind, rd, rs1, rs2, rs3, rm, imm, csr⟩)] W fun e w' => e = .returned (.tuple #[.int .u32 (v : Nat), .int .i64 0]) ∧ Below W.heap.size W w' := by
  have CM := Lib.hid (fun X => rmay_c X ⟨op, form, frm, kind, rd, rs1, rs2, rs3, rm, imm, csr⟩)
  rw [hM] at CM
  have HC := Lib.hid (rof_is ⟨op, form, frm, kind, rd, rs1, rs2, rs3, rm, imm, csr⟩ (some ⟨rop, rform, rfrm, rkind, rmask, rmtch, 3⟩) ho)
  simp only [] at HC
  have HF : Hid (∀ X, Calls Try.prog 59 #[.int .u8 3] X fun e w' => e = .returned (.agg (hasV ⟨true, true, true, true, false, false⟩)) ∧ Below X.heap.size X w') := Lib.hid (fun X => fields_c X 3 (by decide))
  have h1 : rd < 32 := M.rd
  have h2 : rs1 < 32 := M.rs1
  have h3 : rs2 < 32 := M.rs2
  have h4 : rs3 < 32 := M.rs3
  have h5 : rm < 8 := M.rm
  have h8 : -2048 ≤ imm := M.imm1
  have h9 : imm < 2048 := M.imm2
  have h10 : csr ≤ 3 := M.csr
  simp only [FW] at hv
  have hi0 : imm = 0 := M.zimm (by decide)
  subst hi0
  obtain ⟨s0, hs0⟩ : ∃ s, rmtch = s := ⟨_, rfl⟩
  obtain ⟨p0, hp0⟩ : ∃ p, rs1 * 32768 = p := ⟨_, rfl⟩
  have P0 : Hid (∀ X, Calls Try.prog 58 #[.int .i64 15, .int .i64 5, .int .i64 (rs1 : Nat)] X fun e w' => e = .returned (.int .u32 (p0 : Nat)) ∧ w' = X) := Lib.hid fun X => by
    have := put_c X 15 5 rs1 (by omega) (by omega)
    rw [Nat.mod_eq_of_lt (show rs1 < 2 ^ 5 by omega), show rs1 * 2 ^ 15 = p0 from by rw [← hp0]] at this
    exact this
  obtain ⟨s1, hs1⟩ : ∃ s, s0 + p0 = s := ⟨_, rfl⟩
  obtain ⟨p1, hp1⟩ : ∃ p, rd * 128 = p := ⟨_, rfl⟩
  have P1 : Hid (∀ X, Calls Try.prog 58 #[.int .i64 7, .int .i64 5, .int .i64 (rd : Nat)] X fun e w' => e = .returned (.int .u32 (p1 : Nat)) ∧ w' = X) := Lib.hid fun X => by
    have := put_c X 7 5 rd (by omega) (by omega)
    rw [Nat.mod_eq_of_lt (show rd < 2 ^ 5 by omega), show rd * 2 ^ 7 = p1 from by rw [← hp1]] at this
    exact this
  obtain ⟨s2, hs2⟩ : ∃ s, s1 + p1 = s := ⟨_, rfl⟩
  obtain ⟨p2, hp2⟩ : ∃ p, rs2 * 1048576 = p := ⟨_, rfl⟩
  have P2 : Hid (∀ X, Calls Try.prog 58 #[.int .i64 20, .int .i64 5, .int .i64 (rs2 : Nat)] X fun e w' => e = .returned (.int .u32 (p2 : Nat)) ∧ w' = X) := Lib.hid fun X => by
    have := put_c X 20 5 rs2 (by omega) (by omega)
    rw [Nat.mod_eq_of_lt (show rs2 < 2 ^ 5 by omega), show rs2 * 2 ^ 20 = p2 from by rw [← hp2]] at this
    exact this
  obtain ⟨s3, hs3⟩ : ∃ s, s2 + p2 = s := ⟨_, rfl⟩
  obtain ⟨p3, hp3⟩ : ∃ p, rs3 * 134217728 = p := ⟨_, rfl⟩
  have P3 : Hid (∀ X, Calls Try.prog 58 #[.int .i64 27, .int .i64 5, .int .i64 (rs3 : Nat)] X fun e w' => e = .returned (.int .u32 (p3 : Nat)) ∧ w' = X) := Lib.hid fun X => by
    have := put_c X 27 5 rs3 (by omega) (by omega)
    rw [Nat.mod_eq_of_lt (show rs3 < 2 ^ 5 by omega), show rs3 * 2 ^ 27 = p3 from by rw [← hp3]] at this
    exact this
  obtain ⟨s4, hs4⟩ : ∃ s, s3 + p3 = s := ⟨_, rfl⟩
  obtain ⟨p4, hp4⟩ : ∃ p, rm * 4096 = p := ⟨_, rfl⟩
  have P4 : Hid (∀ X, Calls Try.prog 58 #[.int .i64 12, .int .i64 3, .int .i64 (rm : Nat)] X fun e w' => e = .returned (.int .u32 (p4 : Nat)) ∧ w' = X) := Lib.hid fun X => by
    have := put_c X 12 3 rm (by omega) (by omega)
    rw [Nat.mod_eq_of_lt (show rm < 2 ^ 3 by omega), show rm * 2 ^ 12 = p4 from by rw [← hp4]] at this
    exact this
  obtain ⟨s5, hs5⟩ : ∃ s, s4 + p4 = s := ⟨_, rfl⟩
  have hfin : s5 = v := by omega
  have e0 : ((s0 : Int) + (p0 : Int)) % 4294967296 = ((s1 : Nat) : Int) := by omega
  have e1 : ((s1 : Int) + (p1 : Int)) % 4294967296 = ((s2 : Nat) : Int) := by omega
  have e2 : ((s2 : Int) + (p2 : Int)) % 4294967296 = ((s3 : Nat) : Int) := by omega
  have e3 : ((s3 : Int) + (p3 : Int)) % 4294967296 = ((s4 : Nat) : Int) := by omega
  have e4 : ((s4 : Int) + (p4 : Int)) % 4294967296 = ((s5 : Nat) : Int) := by omega
  subst hs0
  have K0 := Lib.hid (Blk.new W (instV ⟨op, form, frm, kind, rd, rs1, rs2, rs3, rm, 0, csr⟩) 27)
  have B0 := Lib.hid ((Below.refl W.heap.size W).alloc (Nat.le_refl _) (.cells (instV ⟨op, form, frm, kind, rd, rs1, rs2, rs3, rm, 0, csr⟩) 27))
  clear hM ho hv hlt M hp0 hp1 hp2 hp3 hp4 hs1 hs2 hs3 hs4 hs5
  go_enter Try.func26, Try.ntmps26
  go_wp2_with (first
    | (go_at_call 27; (with_reducible refine (CM.out _).mono ?_); rintro e w0 ⟨rfl, b0⟩; clear CM; have k0 := K0.out.call b0; have f0 := k0.cell 0; have f1 := k0.cell 1; have f2 := k0.cell 2; have f3 := k0.cell 3; simp only [List.getElem?_toArray, List.getElem?_cons_succ, List.getElem?_cons_zero] at f0 f1 f2 f3)
    | (go_at_call 47; (with_reducible refine (HC.out _).mono ?_); rintro e w1 ⟨⟨rr, nn, c, rfl, rfl, rfl⟩, b1⟩; clear HC f0 f1 f2 f3; have k1 := (k0.call b1).alloc (.cells (entV ⟨rop, rform, rfrm, rkind, rmask, rmtch, 3⟩ nn) 42); have n1 := Blk.new w1 (entV ⟨rop, rform, rfrm, rkind, rmask, rmtch, 3⟩ nn) 42)
    | (refine wpList_load_blk rfl _ _ rfl _ rfl _ _ _ K0.out Try.underlying27 rfl (by kernel_rfl) ?_))
  have d1 := (below_call (below_call B0.out b0) b1).alloc (below_call (below_call B0.out b0) b1).size (.cells (entV ⟨rop, rform, rfrm, rkind, rmask, rmtch, 3⟩ nn) 42)
  show Code.wp _ _ _ _ (w1.alloc (.cells (entV ⟨rop, rform, rfrm, rkind, rmask, rmtch, 3⟩ nn) 42))
  obtain ⟨V, hV⟩ : ∃ V, w1.alloc (.cells (entV ⟨rop, rform, rfrm, rkind, rmask, rmtch, 3⟩ nn) 42) = V := ⟨_, rfl⟩
  obtain ⟨gb, hgb⟩ : ∃ gb, w1.heap.size = gb := ⟨_, rfl⟩
  rw [hV] at k1 n1 d1 ⊢
  rw [hgb] at n1 ⊢
  clear hV hgb b1 k0
  have n5 := n1.cell 5
  have c5 := k1.cell 5
  have n6 := n1.cell 6
  simp only [List.getElem?_toArray, List.getElem?_cons_succ, List.getElem?_cons_zero] at n5 n6 c5
  have eW : IntKind.u32.wrap ((rmtch : Int) + (p0 : Int)) = ((s1 : Nat) : Int) := by have := e0; simp only [IntKind.wrap, IntKind.signed, IntKind.bits]; simpa using this
  refine wp_region_sets_lit (fun _ w' => ∃ q, w' = V.drewN q) (by kernel_rfl) (by kernel_rfl) ⟨1, rfl⟩ ?_
  (repeat (first | (refine sets_quiet (fun w' => ∃ q, w' = V.drewN q) (fun _ _ h => h) rfl (fun _ _ _ h => h) rfl ?_; intro K hK; go_big_quiet_op; first | go_big_quiet_on | (refine ⟨_, fun _ => rfl, ?_⟩; go_big_quiet_on)) | (refine sets_nil rfl (fun _ _ _ h => h) _ rfl _ rfl ?_; simp only [Act.put, List.setIfInBounds_toArray, List.set_cons_succ, List.set_cons_zero]) | (refine sets_skip rfl (fun _ _ _ h => h) ?_; simp only [Act.put, List.setIfInBounds_toArray, List.set_cons_succ, List.set_cons_zero])))
  refine sets_call (.int .u32 (p0 : Nat)) rfl 58 [_, _, _] _ rfl Try.f58 Try.func58 (by kernel_rfl) (by kernel_rfl) [.int .i64 15, .int .i64 5, .int .i64 (rs1 : Nat)] rfl (fun S X h1 h2 h3 => ?_) ?_
  · refine (P0.out X).mono ?_
    rintro e X2 ⟨rfl, rfl⟩
    exact ⟨rfl, h3⟩
  simp only [Act.put, List.setIfInBounds_toArray, List.set_cons_succ, List.set_cons_zero]
  (repeat (first | (refine sets_quiet (fun w' => ∃ q, w' = V.drewN q) (fun _ _ h => h) rfl (fun _ _ _ h => h) rfl ?_; intro K hK; go_big_quiet_op; first | go_big_quiet_on | (refine ⟨_, fun _ => rfl, ?_⟩; go_big_quiet_on)) | (refine sets_nil rfl (fun _ _ _ h => h) _ rfl _ rfl ?_; simp only [Act.put, List.setIfInBounds_toArray, List.set_cons_succ, List.set_cons_zero]) | (refine sets_skip rfl (fun _ _ _ h => h) ?_; simp only [Act.put, List.setIfInBounds_toArray, List.set_cons_succ, List.set_cons_zero])))
  rintro S _ _ ⟨nq, rfl⟩
  have HFIN := Lib.hid hfin
  clear eW hfin e0 P0 n5 c5
  go_upto_region 6 with (first
    | (go_at_call 59; (with_reducible refine (HF.out _).mono ?_); rintro e w2 ⟨rfl, b2⟩; clear HF n6; have kx := ((k1.drewN nq).call b2).alloc (.cells (hasV ⟨true, true, true, true, false, false⟩) 106); have nx := ((n1.drewN nq).call b2).alloc (.cells (hasV ⟨true, true, true, true, false, false⟩) 106); have kh := Blk.new w2 (hasV ⟨true, true, true, true, false, false⟩) 106; have d2 := below_call (below_drewN d1) b2; have d3 := d2.alloc d2.size (.cells (hasV ⟨true, true, true, true, false, false⟩) 106)))
  obtain ⟨V2, hV2⟩ : ∃ V2, w2.alloc (.cells (hasV ⟨true, true, true, true, false, false⟩) 106) = V2 := ⟨_, rfl⟩
  obtain ⟨hb, hhb⟩ : ∃ hb, w2.heap.size = hb := ⟨_, rfl⟩
  show Code.wp _ _ _ _ (w2.alloc (.cells (hasV ⟨true, true, true, true, false, false⟩) 106))
  rw [hV2] at kx nx kh d3 ⊢
  rw [hhb] at kh ⊢
  clear hV2 hhb d2 b2 d1 k1 n1 K0 B0
  have n6 := nx.cell 6
  have c5 := kx.cell 5
  have c4 := kx.cell 4
  have c6 := kx.cell 6
  have c7 := kx.cell 7
  have c8 := kx.cell 8
  have c9 := kx.cell 9
  have g0 := kh.cell 0
  have g1 := kh.cell 1
  have g2 := kh.cell 2
  have g3 := kh.cell 3
  have g4 := kh.cell 4
  have g5 := kh.cell 5
  simp only [List.getElem?_toArray, List.getElem?_cons_succ, List.getElem?_cons_zero] at n6 c5 c4 c6 c7 c8 c9 g0 g1 g2 g3 g4 g5
  clear kx nx kh
  go_wp2_with (first
    | (go_at_call 58; (with_reducible refine (P1.out _).mono ?_); rintro e w3 ⟨rfl, rfl⟩)
    | (go_at_call 58; (with_reducible refine (P2.out _).mono ?_); rintro e w3 ⟨rfl, rfl⟩)
    | (go_at_call 58; (with_reducible refine (P3.out _).mono ?_); rintro e w3 ⟨rfl, rfl⟩)
    | (go_at_call 58; (with_reducible refine (P4.out _).mono ?_); rintro e w3 ⟨rfl, rfl⟩))
  go_ret2
  refine ⟨?_, d3⟩
  show Ending.returned (.tuple #[.int .u32 (((s4 : Int) + (p4 : Int)) % 4294967296), .int .i64 0]) = _
  rw [e4, HFIN.out]
end Go.Proofs.Yteelconabmfnkaa

/- abacusref25.Encode: by the layout. -/
namespace Go.Proofs.Yteelconabmfnkaa
open Go Go.RowKit
set_option maxHeartbeats 4000000
set_option maxRecDepth 100000
set_option linter.unusedVariables false
set_option linter.unusedSimpArgs false
theorem renc_4 (W : World) (op form frm kind rd rs1 rs2 rs3 rm : Nat) (imm : Int) (csr : Nat) (rop rform rfrm rkind rmask rmtch : Nat) (hM : MAY ⟨op, form, frm, kind, rd, rs1, rs2, rs3, rm, imm, csr⟩ = true) (ho : OFS op form frm kind = some ⟨rop, rform, rfrm, rkind, rmask, rmtch, 4⟩) (M : Mays 4 ⟨op, form, frm, kind, rd, rs1, rs2, rs3, rm, imm, csr⟩) (v : Nat) (hv : rmtch + FW 4 ⟨op, form, frm, kind, rd, rs1, rs2, rs3, rm, imm, csr⟩ = v) (hlt : v < 4294967296) : Calls Try.prog 26 #[.agg (instV ⟨op, form, frm, kind, rd, rs1, rs2, rs3, rm, imm, csr⟩)] W fun e w' => e = .returned (.tuple #[.int .u32 (v : Nat), .int .i64 0]) ∧ Below W.heap.size W w' := by
  have CM := Lib.hid (fun X => rmay_c X ⟨op, form, frm, kind, rd, rs1, rs2, rs3, rm, imm, csr⟩)
  rw [hM] at CM
  have HC := Lib.hid (rof_is ⟨op, form, frm, kind, rd, rs1, rs2, rs3, rm, imm, csr⟩ (some ⟨rop, rform, rfrm, rkind, rmask, rmtch, 4⟩) ho)
  simp only [] at HC
  have HF : Hid (∀ X, Calls Try.prog 59 #[.int .u8 4] X fun e w' => e = .returned (.agg (hasV ⟨true, true, false, true, false, false⟩)) ∧ Below X.heap.size X w') := Lib.hid (fun X => fields_c X 4 (by decide))
  have h1 : rd < 32 := M.rd
  have h2 : rs1 < 32 := M.rs1
  have h3 : rs2 < 32 := M.rs2
  have h4 : rs3 < 32 := M.rs3
  have h5 : rm < 8 := M.rm
  have h8 : -2048 ≤ imm := M.imm1
  have h9 : imm < 2048 := M.imm2
  have h10 : csr ≤ 3 := M.csr
  simp only [FW] at hv
  have hi0 : imm = 0 := M.zimm (by decide)
  subst hi0
  obtain ⟨s0, hs0⟩ : ∃ s, rmtch = s := ⟨_, rfl⟩
  obtain ⟨p0, hp0⟩ : ∃ p, rs1 * 32768 = p := ⟨_, rfl⟩
  have P0 : Hid (∀ X, Calls Try.prog 58 #[.int .i64 15, .int .i64 5, .int .i64 (rs1 : Nat)] X fun e w' => e = .returned (.int .u32 (p0 : Nat)) ∧ w' = X) := Lib.hid fun X => by
    have := put_c X 15 5 rs1 (by omega) (by omega)
    rw [Nat.mod_eq_of_lt (show rs1 < 2 ^ 5 by omega), show rs1 * 2 ^ 15 = p0 from by rw [← hp0]] at this
    exact this
  obtain ⟨s1, hs1⟩ : ∃ s, s0 + p0 = s := ⟨_, rfl⟩
  obtain ⟨p1, hp1⟩ : ∃ p, rd * 128 = p := ⟨_, rfl⟩
  have P1 : Hid (∀ X, Calls Try.prog 58 #[.int .i64 7, .int .i64 5, .int .i64 (rd : Nat)] X fun e w' => e = .returned (.int .u32 (p1 : Nat)) ∧ w' = X) := Lib.hid fun X => by
    have := put_c X 7 5 rd (by omega) (by omega)
    rw [Nat.mod_eq_of_lt (show rd < 2 ^ 5 by omega), show rd * 2 ^ 7 = p1 from by rw [← hp1]] at this
    exact this
  obtain ⟨s2, hs2⟩ : ∃ s, s1 + p1 = s := ⟨_, rfl⟩
  obtain ⟨p2, hp2⟩ : ∃ p, rs2 * 1048576 = p := ⟨_, rfl⟩
  have P2 : Hid (∀ X, Calls Try.prog 58 #[.int .i64 20, .int .i64 5, .int .i64 (rs2 : Nat)] X fun e w' => e = .returned (.int .u32 (p2 : Nat)) ∧ w' = X) := Lib.hid fun X => by
    have := put_c X 20 5 rs2 (by omega) (by omega)
    rw [Nat.mod_eq_of_lt (show rs2 < 2 ^ 5 by omega), show rs2 * 2 ^ 20 = p2 from by rw [← hp2]] at this
    exact this
  obtain ⟨s3, hs3⟩ : ∃ s, s2 + p2 = s := ⟨_, rfl⟩
  obtain ⟨p3, hp3⟩ : ∃ p, rm * 4096 = p := ⟨_, rfl⟩
  have P3 : Hid (∀ X, Calls Try.prog 58 #[.int .i64 12, .int .i64 3, .int .i64 (rm : Nat)] X fun e w' => e = .returned (.int .u32 (p3 : Nat)) ∧ w' = X) := Lib.hid fun X => by
    have := put_c X 12 3 rm (by omega) (by omega)
    rw [Nat.mod_eq_of_lt (show rm < 2 ^ 3 by omega), show rm * 2 ^ 12 = p3 from by rw [← hp3]] at this
    exact this
  obtain ⟨s4, hs4⟩ : ∃ s, s3 + p3 = s := ⟨_, rfl⟩
  have hfin : s4 = v := by omega
  have e0 : ((s0 : Int) + (p0 : Int)) % 4294967296 = ((s1 : Nat) : Int) := by omega
  have e1 : ((s1 : Int) + (p1 : Int)) % 4294967296 = ((s2 : Nat) : Int) := by omega
  have e2 : ((s2 : Int) + (p2 : Int)) % 4294967296 = ((s3 : Nat) : Int) := by omega
  have e3 : ((s3 : Int) + (p3 : Int)) % 4294967296 = ((s4 : Nat) : Int) := by omega
  subst hs0
  have K0 := Lib.hid (Blk.new W (instV ⟨op, form, frm, kind, rd, rs1, rs2, rs3, rm, 0, csr⟩) 27)
  have B0 := Lib.hid ((Below.refl W.heap.size W).alloc (Nat.le_refl _) (.cells (instV ⟨op, form, frm, kind, rd, rs1, rs2, rs3, rm, 0, csr⟩) 27))
  clear hM ho hv hlt M hp0 hp1 hp2 hp3 hs1 hs2 hs3 hs4
  go_enter Try.func26, Try.ntmps26
  go_wp2_with (first
    | (go_at_call 27; (with_reducible refine (CM.out _).mono ?_); rintro e w0 ⟨rfl, b0⟩; clear CM; have k0 := K0.out.call b0; have f0 := k0.cell 0; have f1 := k0.cell 1; have f2 := k0.cell 2; have f3 := k0.cell 3; simp only [List.getElem?_toArray, List.getElem?_cons_succ, List.getElem?_cons_zero] at f0 f1 f2 f3)
    | (go_at_call 47; (with_reducible refine (HC.out _).mono ?_); rintro e w1 ⟨⟨rr, nn, c, rfl, rfl, rfl⟩, b1⟩; clear HC f0 f1 f2 f3; have k1 := (k0.call b1).alloc (.cells (entV ⟨rop, rform, rfrm, rkind, rmask, rmtch, 4⟩ nn) 42); have n1 := Blk.new w1 (entV ⟨rop, rform, rfrm, rkind, rmask, rmtch, 4⟩ nn) 42)
    | (refine wpList_load_blk rfl _ _ rfl _ rfl _ _ _ K0.out Try.underlying27 rfl (by kernel_rfl) ?_))
  have d1 := (below_call (below_call B0.out b0) b1).alloc (below_call (below_call B0.out b0) b1).size (.cells (entV ⟨rop, rform, rfrm, rkind, rmask, rmtch, 4⟩ nn) 42)
  show Code.wp _ _ _ _ (w1.alloc (.cells (entV ⟨rop, rform, rfrm, rkind, rmask, rmtch, 4⟩ nn) 42))
  obtain ⟨V, hV⟩ : ∃ V, w1.alloc (.cells (entV ⟨rop, rform, rfrm, rkind, rmask, rmtch, 4⟩ nn) 42) = V := ⟨_, rfl⟩
  obtain ⟨gb, hgb⟩ : ∃ gb, w1.heap.size = gb := ⟨_, rfl⟩
  rw [hV] at k1 n1 d1 ⊢
  rw [hgb] at n1 ⊢
  clear hV hgb b1 k0
  have n5 := n1.cell 5
  have c5 := k1.cell 5
  have n6 := n1.cell 6
  simp only [List.getElem?_toArray, List.getElem?_cons_succ, List.getElem?_cons_zero] at n5 n6 c5
  have eW : IntKind.u32.wrap ((rmtch : Int) + (p0 : Int)) = ((s1 : Nat) : Int) := by have := e0; simp only [IntKind.wrap, IntKind.signed, IntKind.bits]; simpa using this
  refine wp_region_sets_lit (fun _ w' => ∃ q, w' = V.drewN q) (by kernel_rfl) (by kernel_rfl) ⟨1, rfl⟩ ?_
  (repeat (first | (refine sets_quiet (fun w' => ∃ q, w' = V.drewN q) (fun _ _ h => h) rfl (fun _ _ _ h => h) rfl ?_; intro K hK; go_big_quiet_op; first | go_big_quiet_on | (refine ⟨_, fun _ => rfl, ?_⟩; go_big_quiet_on)) | (refine sets_nil rfl (fun _ _ _ h => h) _ rfl _ rfl ?_; simp only [Act.put, List.setIfInBounds_toArray, List.set_cons_succ, List.set_cons_zero]) | (refine sets_skip rfl (fun _ _ _ h => h) ?_; simp only [Act.put, List.setIfInBounds_toArray, List.set_cons_succ, List.set_cons_zero])))
  refine sets_call (.int .u32 (p0 : Nat)) rfl 58 [_, _, _] _ rfl Try.f58 Try.func58 (by kernel_rfl) (by kernel_rfl) [.int .i64 15, .int .i64 5, .int .i64 (rs1 : Nat)] rfl (fun S X h1 h2 h3 => ?_) ?_
  · refine (P0.out X).mono ?_
    rintro e X2 ⟨rfl, rfl⟩
    exact ⟨rfl, h3⟩
  simp only [Act.put, List.setIfInBounds_toArray, List.set_cons_succ, List.set_cons_zero]
  (repeat (first | (refine sets_quiet (fun w' => ∃ q, w' = V.drewN q) (fun _ _ h => h) rfl (fun _ _ _ h => h) rfl ?_; intro K hK; go_big_quiet_op; first | go_big_quiet_on | (refine ⟨_, fun _ => rfl, ?_⟩; go_big_quiet_on)) | (refine sets_nil rfl (fun _ _ _ h => h) _ rfl _ rfl ?_; simp only [Act.put, List.setIfInBounds_toArray, List.set_cons_succ, List.set_cons_zero]) | (refine sets_skip rfl (fun _ _ _ h => h) ?_; simp only [Act.put, List.setIfInBounds_toArray, List.set_cons_succ, List.set_cons_zero])))
  rintro S _ _ ⟨nq, rfl⟩
  have HFIN := Lib.hid hfin
  clear eW hfin e0 P0 n5 c5
  go_upto_region 6 with (first
    | (go_at_call 59; (with_reducible refine (HF.out _).mono ?_); rintro e w2 ⟨rfl, b2⟩; clear HF n6; have kx := ((k1.drewN nq).call b2).alloc (.cells (hasV ⟨true, true, false, true, false, false⟩) 106); have nx := ((n1.drewN nq).call b2).alloc (.cells (hasV ⟨true, true, false, true, false, false⟩) 106); have kh := Blk.new w2 (hasV ⟨true, true, false, true, false, false⟩) 106; have d2 := below_call (below_drewN d1) b2; have d3 := d2.alloc d2.size (.cells (hasV ⟨true, true, false, true, false, false⟩) 106)))
  obtain ⟨V2, hV2⟩ : ∃ V2, w2.alloc (.cells (hasV ⟨true, true, false, true, false, false⟩) 106) = V2 := ⟨_, rfl⟩
  obtain ⟨hb, hhb⟩ : ∃ hb, w2.heap.size = hb := ⟨_, rfl⟩
  show Code.wp _ _ _ _ (w2.alloc (.cells (hasV ⟨true, true, false, true, false, false⟩) 106))
  rw [hV2] at kx nx kh d3 ⊢
  rw [hhb] at kh ⊢
  clear hV2 hhb d2 b2 d1 k1 n1 K0 B0
  have n6 := nx.cell 6
  have c5 := kx.cell 5
  have c4 := kx.cell 4
  have c6 := kx.cell 6
  have c8 := kx.cell 8
  have c9 := kx.cell 9
  have g0 := kh.cell 0
  have g1 := kh.cell 1
  have g2 := kh.cell 2
  have g3 := kh.cell 3
  have g4 := kh.cell 4
  have g5 := kh.cell 5
  simp only [List.getElem?_toArray, List.getElem?_cons_succ, List.getElem?_cons_zero] at n6 c5 c4 c6 c8 c9 g0 g1 g2 g3 g4 g5
  clear kx nx kh
  go_wp2_with (first
    | (go_at_call 58; (with_reducible refine (P1.out _).mono ?_); rintro e w3 ⟨rfl, rfl⟩)
    | (go_at_call 58; (with_reducible refine (P2.out _).mono ?_); rintro e w3 ⟨rfl, rfl⟩)
    | (go_at_call 58; (with_reducible refine (P3.out _).mono ?_); rintro e w3 ⟨rfl, rfl⟩))
  go_ret2
  refine ⟨?_, d3⟩
  show Ending.returned (.tuple #[.int .u32 (((s3 : Int) + (p3 : Int)) % 4294967296), .int .i64 0]) = _
  rw [e3, HFIN.out]
theorem renc_5 (W : World) (op form frm kind rd rs1 rs2 rs3 rm : Nat) (imm : Int) (csr : Nat) (rop rform rfrm rkind rmask rmtch : Nat) (hM : MAY ⟨op, form, frm, kind, rd, rs1, rs2, rs3, rm, imm, csr⟩ = true) (ho : OFS op form frm kind = some ⟨rop, rform, rfrm, rkind, rmask, rmtch, 5⟩) (M : Mays 5 ⟨op, form, frm, kind, rd, rs1, rs2, rs3, rm, imm, csr⟩) (v : Nat) (hv : rmtch + FW 5 ⟨op, form, frm, kind, rd, rs1, rs2, rs3, rm, imm, csr⟩ = v) (hlt : v < 4294967296) : Calls Try.prog 26 #[.agg (instV ⟨op, form, frm, kind, rd, rs1, rs2, rs3, rm, imm, csr⟩)] W fun e w' => e = .returned (.tuple #[.int .u32 (v : Nat), .int .i64 0]) ∧ Below W.heap.size W w' := by
  have CM := Lib.hid (fun X => rmay_c X ⟨op, form, frm, kind, rd, rs1, rs2, rs3, rm, imm, csr⟩)
  rw [hM] at CM
  have HC := Lib.hid (rof_is ⟨op, form, frm, kind, rd, rs1, rs2, rs3, rm, imm, csr⟩ (some ⟨rop, rform, rfrm, rkind, rmask, rmtch, 5⟩) ho)
  simp only [] at HC
  have HF : Hid (∀ X, Calls Try.prog 59 #[.int .u8 5] X fun e w' => e = .returned (.agg (hasV ⟨true, true, false, false, false, false⟩)) ∧ Below X.heap.size X w') := Lib.hid (fun X => fields_c X 5 (by decide))
  have h1 : rd < 32 := M.rd
  have h2 : rs1 < 32 := M.rs1
  have h3 : rs2 < 32 := M.rs2
  have h4 : rs3 < 32 := M.rs3
  have h5 : rm < 8 := M.rm
  have h8 : -2048 ≤ imm := M.imm1
  have h9 : imm < 2048 := M.imm2
  have h10 : csr ≤ 3 := M.csr
  simp only [FW] at hv
  have hi0 : imm = 0 := M.zimm (by decide)
  subst hi0
  obtain ⟨s0, hs0⟩ : ∃ s, rmtch = s := ⟨_, rfl⟩
  obtain ⟨p0, hp0⟩ : ∃ p, rs1 * 32768 = p := ⟨_, rfl⟩
  have P0 : Hid (∀ X, Calls Try.prog 58 #[.int .i64 15, .int .i64 5, .int .i64 (rs1 : Nat)] X fun e w' => e = .returned (.int .u32 (p0 : Nat)) ∧ w' = X) := Lib.hid fun X => by
    have := put_c X 15 5 rs1 (by omega) (by omega)
    rw [Nat.mod_eq_of_lt (show rs1 < 2 ^ 5 by omega), show rs1 * 2 ^ 15 = p0 from by rw [← hp0]] at this
    exact this
  obtain ⟨s1, hs1⟩ : ∃ s, s0 + p0 = s := ⟨_, rfl⟩
  obtain ⟨p1, hp1⟩ : ∃ p, rd * 128 = p := ⟨_, rfl⟩
  have P1 : Hid (∀ X, Calls Try.prog 58 #[.int .i64 7, .int .i64 5, .int .i64 (rd : Nat)] X fun e w' => e = .returned (.int .u32 (p1 : Nat)) ∧ w' = X) := Lib.hid fun X => by
    have := put_c X 7 5 rd (by omega) (by omega)
    rw [Nat.mod_eq_of_lt (show rd < 2 ^ 5 by omega), show rd * 2 ^ 7 = p1 from by rw [← hp1]] at this
    exact this
  obtain ⟨s2, hs2⟩ : ∃ s, s1 + p1 = s := ⟨_, rfl⟩
  obtain ⟨p2, hp2⟩ : ∃ p, rs2 * 1048576 = p := ⟨_, rfl⟩
  have P2 : Hid (∀ X, Calls Try.prog 58 #[.int .i64 20, .int .i64 5, .int .i64 (rs2 : Nat)] X fun e w' => e = .returned (.int .u32 (p2 : Nat)) ∧ w' = X) := Lib.hid fun X => by
    have := put_c X 20 5 rs2 (by omega) (by omega)
    rw [Nat.mod_eq_of_lt (show rs2 < 2 ^ 5 by omega), show rs2 * 2 ^ 20 = p2 from by rw [← hp2]] at this
    exact this
  obtain ⟨s3, hs3⟩ : ∃ s, s2 + p2 = s := ⟨_, rfl⟩
  have hfin : s3 = v := by omega
  have e0 : ((s0 : Int) + (p0 : Int)) % 4294967296 = ((s1 : Nat) : Int) := by omega
  have e1 : ((s1 : Int) + (p1 : Int)) % 4294967296 = ((s2 : Nat) : Int) := by omega
  have e2 : ((s2 : Int) + (p2 : Int)) % 4294967296 = ((s3 : Nat) : Int) := by omega
  subst hs0
  have K0 := Lib.hid (Blk.new W (instV ⟨op, form, frm, kind, rd, rs1, rs2, rs3, rm, 0, csr⟩) 27)
  have B0 := Lib.hid ((Below.refl W.heap.size W).alloc (Nat.le_refl _) (.cells (instV ⟨op, form, frm, kind, rd, rs1, rs2, rs3, rm, 0, csr⟩) 27))
  clear hM ho hv hlt M hp0 hp1 hp2 hs1 hs2 hs3
  go_enter Try.func26, Try.ntmps26
  go_wp2_with (first
    | (go_at_call 27; (with_reducible refine (CM.out _).mono ?_); rintro e w0 ⟨rfl, b0⟩; clear CM; have k0 := K0.out.call b0; have f0 := k0.cell 0; have f1 := k0.cell 1; have f2 := k0.cell 2; have f3 := k0.cell 3; simp only [List.getElem?_toArray, List.getElem?_cons_succ, List.getElem?_cons_zero] at f0 f1 f2 f3)
    | (go_at_call 47; (with_reducible refine (HC.out _).mono ?_); rintro e w1 ⟨⟨rr, nn, c, rfl, rfl, rfl⟩, b1⟩; clear HC f0 f1 f2 f3; have k1 := (k0.call b1).alloc (.cells (entV ⟨rop, rform, rfrm, rkind, rmask, rmtch, 5⟩ nn) 42); have n1 := Blk.new w1 (entV ⟨rop, rform, rfrm, rkind, rmask, rmtch, 5⟩ nn) 42)
    | (refine wpList_load_blk rfl _ _ rfl _ rfl _ _ _ K0.out Try.underlying27 rfl (by kernel_rfl) ?_))
  have d1 := (below_call (below_call B0.out b0) b1).alloc (below_call (below_call B0.out b0) b1).size (.cells (entV ⟨rop, rform, rfrm, rkind, rmask, rmtch, 5⟩ nn) 42)
  show Code.wp _ _ _ _ (w1.alloc (.cells (entV ⟨rop, rform, rfrm, rkind, rmask, rmtch, 5⟩ nn) 42))
  obtain ⟨V, hV⟩ : ∃ V, w1.alloc (.cells (entV ⟨rop, rform, rfrm, rkind, rmask, rmtch, 5⟩ nn) 42) = V := ⟨_, rfl⟩
  obtain ⟨gb, hgb⟩ : ∃ gb, w1.heap.size = gb := ⟨_, rfl⟩
  rw [hV] at k1 n1 d1 ⊢
  rw [hgb] at n1 ⊢
  clear hV hgb b1 k0
  have n5 := n1.cell 5
  have c5 := k1.cell 5
  have n6 := n1.cell 6
  simp only [List.getElem?_toArray, List.getElem?_cons_succ, List.getElem?_cons_zero] at n5 n6 c5
  have eW : IntKind.u32.wrap ((rmtch : Int) + (p0 : Int)) = ((s1 : Nat) : Int) := by have := e0; simp only [IntKind.wrap, IntKind.signed, IntKind.bits]; simpa using this
  refine wp_region_sets_lit (fun _ w' => ∃ q, w' = V.drewN q) (by kernel_rfl) (by kernel_rfl) ⟨1, rfl⟩ ?_
  (repeat (first | (refine sets_quiet (fun w' => ∃ q, w' = V.drewN q) (fun _ _ h => h) rfl (fun _ _ _ h => h) rfl ?_; intro K hK; go_big_quiet_op; first | go_big_quiet_on | (refine ⟨_, fun _ => rfl, ?_⟩; go_big_quiet_on)) | (refine sets_nil rfl (fun _ _ _ h => h) _ rfl _ rfl ?_; simp only [Act.put, List.setIfInBounds_toArray, List.set_cons_succ, List.set_cons_zero]) | (refine sets_skip rfl (fun _ _ _ h => h) ?_; simp only [Act.put, List.setIfInBounds_toArray, List.set_cons_succ, List.set_cons_zero])))
  refine sets_call (.int .u32 (p0 : Nat)) rfl 58 [_, _, _] _ rfl Try.f58 Try.func58 (by kernel_rfl) (by kernel_rfl) [.int .i64 15, .int .i64 5, .int .i64 (rs1 : Nat)] rfl (fun S X h1 h2 h3 => ?_) ?_
  · refine (P0.out X).mono ?_
    rintro e X2 ⟨rfl, rfl⟩
    exact ⟨rfl, h3⟩
  simp only [Act.put, List.setIfInBounds_toArray, List.set_cons_succ, List.set_cons_zero]
  (repeat (first | (refine sets_quiet (fun w' => ∃ q, w' = V.drewN q) (fun _ _ h => h) rfl (fun _ _ _ h => h) rfl ?_; intro K hK; go_big_quiet_op; first | go_big_quiet_on | (refine ⟨_, fun _ => rfl, ?_⟩; go_big_quiet_on)) | (refine sets_nil rfl (fun _ _ _ h => h) _ rfl _ rfl ?_; simp only [Act.put, List.setIfInBounds_toArray, List.set_cons_succ, List.set_cons_zero]) | (refine sets_skip rfl (fun _ _ _ h => h) ?_; simp only [Act.put, List.setIfInBounds_toArray, List.set_cons_succ, List.set_cons_zero])))
  rintro S _ _ ⟨nq, rfl⟩
  have HFIN := Lib.hid hfin
  clear eW hfin e0 P0 n5 c5
  go_upto_region 6 with (first
    | (go_at_call 59; (with_reducible refine (HF.out _).mono ?_); rintro e w2 ⟨rfl, b2⟩; clear HF n6; have kx := ((k1.drewN nq).call b2).alloc (.cells (hasV ⟨true, true, false, false, false, false⟩) 106); have nx := ((n1.drewN nq).call b2).alloc (.cells (hasV ⟨true, true, false, false, false, false⟩) 106); have kh := Blk.new w2 (hasV ⟨true, true, false, false, false, false⟩) 106; have d2 := below_call (below_drewN d1) b2; have d3 := d2.alloc d2.size (.cells (hasV ⟨true, true, false, false, false, false⟩) 106)))
  obtain ⟨V2, hV2⟩ : ∃ V2, w2.alloc (.cells (hasV ⟨true, true, false, false, false, false⟩) 106) = V2 := ⟨_, rfl⟩
  obtain ⟨hb, hhb⟩ : ∃ hb, w2.heap.size = hb := ⟨_, rfl⟩
  show Code.wp _ _ _ _ (w2.alloc (.cells (hasV ⟨true, true, false, false, false, false⟩) 106))
  rw [hV2] at kx nx kh d3 ⊢
  rw [hhb] at kh ⊢
  clear hV2 hhb d2 b2 d1 k1 n1 K0 B0
  have n6 := nx.cell 6
  have c5 := kx.cell 5
  have c4 := kx.cell 4
  have c6 := kx.cell 6
  have c9 := kx.cell 9
  have g0 := kh.cell 0
  have g1 := kh.cell 1
  have g2 := kh.cell 2
  have g3 := kh.cell 3
  have g4 := kh.cell 4
  have g5 := kh.cell 5
  simp only [List.getElem?_toArray, List.getElem?_cons_succ, List.getElem?_cons_zero] at n6 c5 c4 c6 c9 g0 g1 g2 g3 g4 g5
  clear kx nx kh
  go_wp2_with (first
    | (go_at_call 58; (with_reducible refine (P1.out _).mono ?_); rintro e w3 ⟨rfl, rfl⟩)
    | (go_at_call 58; (with_reducible refine (P2.out _).mono ?_); rintro e w3 ⟨rfl, rfl⟩))
  go_ret2
  refine ⟨?_, d3⟩
  show Ending.returned (.tuple #[.int .u32 (((s2 : Int) + (p2 : Int)) % 4294967296), .int .i64 0]) = _
  rw [e2, HFIN.out]
theorem renc_6 (W : World) (op form frm kind rd rs1 rs2 rs3 rm : Nat) (imm : Int) (csr : Nat) (rop rform rfrm rkind rmask rmtch : Nat) (hM : MAY ⟨op, form, frm, kind, rd, rs1, rs2, rs3, rm, imm, csr⟩ = true) (ho : OFS op form frm kind = some ⟨rop, rform, rfrm, rkind, rmask, rmtch, 6⟩) (M : Mays 6 ⟨op, form, frm, kind, rd, rs1, rs2, rs3, rm, imm, csr⟩) (v : Nat) (hv : rmtch + FW 6 ⟨op, form, frm, kind, rd, rs1, rs2, rs3, rm, imm, csr⟩ = v) (hlt : v < 4294967296) : Calls Try.prog 26 #[.agg (instV ⟨op, form, frm, kind, rd, rs1, rs2, rs3, rm, imm, csr⟩)] W fun e w' => e = .returned (.tuple #[.int .u32 (v : Nat), .int .i64 0]) ∧ Below W.heap.size W w' := by
  have CM := Lib.hid (fun X => rmay_c X ⟨op, form, frm, kind, rd, rs1, rs2, rs3, rm, imm, csr⟩)
  rw [hM] at CM
  have HC := Lib.hid (rof_is ⟨op, form, frm, kind, rd, rs1, rs2, rs3, rm, imm, csr⟩ (some ⟨rop, rform, rfrm, rkind, rmask, rmtch, 6⟩) ho)
  simp only [] at HC
  have HF : Hid (∀ X, Calls Try.prog 59 #[.int .u8 6] X fun e w' => e = .returned (.agg (hasV ⟨true, false, false, true, false, false⟩)) ∧ Below X.heap.size X w') := Lib.hid (fun X => fields_c X 6 (by decide))
  have h1 : rd < 32 := M.rd
  have h2 : rs1 < 32 := M.rs1
  have h3 : rs2 < 32 := M.rs2
  have h4 : rs3 < 32 := M.rs3
  have h5 : rm < 8 := M.rm
  have h8 : -2048 ≤ imm := M.imm1
  have h9 : imm < 2048 := M.imm2
  have h10 : csr ≤ 3 := M.csr
  simp only [FW] at hv
  have hi0 : imm = 0 := M.zimm (by decide)
  subst hi0
  obtain ⟨s0, hs0⟩ : ∃ s, rmtch = s := ⟨_, rfl⟩
  obtain ⟨p0, hp0⟩ : ∃ p, rs1 * 32768 = p := ⟨_, rfl⟩
  have P0 : Hid (∀ X, Calls Try.prog 58 #[.int .i64 15, .int .i64 5, .int .i64 (rs1 : Nat)] X fun e w' => e = .returned (.int .u32 (p0 : Nat)) ∧ w' = X) := Lib.hid fun X => by
    have := put_c X 15 5 rs1 (by omega) (by omega)
    rw [Nat.mod_eq_of_lt (show rs1 < 2 ^ 5 by omega), show rs1 * 2 ^ 15 = p0 from by rw [← hp0]] at this
    exact this
  obtain ⟨s1, hs1⟩ : ∃ s, s0 + p0 = s := ⟨_, rfl⟩
  obtain ⟨p1, hp1⟩ : ∃ p, rd * 128 = p := ⟨_, rfl⟩
  have P1 : Hid (∀ X, Calls Try.prog 58 #[.int .i64 7, .int .i64 5, .int .i64 (rd : Nat)] X fun e w' => e = .returned (.int .u32 (p1 : Nat)) ∧ w' = X) := Lib.hid fun X => by
    have := put_c X 7 5 rd (by omega) (by omega)
    rw [Nat.mod_eq_of_lt (show rd < 2 ^ 5 by omega), show rd * 2 ^ 7 = p1 from by rw [← hp1]] at this
    exact this
  obtain ⟨s2, hs2⟩ : ∃ s, s1 + p1 = s := ⟨_, rfl⟩
  obtain ⟨p2, hp2⟩ : ∃ p, rm * 4096 = p := ⟨_, rfl⟩
  have P2 : Hid (∀ X, Calls Try.prog 58 #[.int .i64 12, .int .i64 3, .int .i64 (rm : Nat)] X fun e w' => e = .returned (.int .u32 (p2 : Nat)) ∧ w' = X) := Lib.hid fun X => by
    have := put_c X 12 3 rm (by omega) (by omega)
    rw [Nat.mod_eq_of_lt (show rm < 2 ^ 3 by omega), show rm * 2 ^ 12 = p2 from by rw [← hp2]] at this
    exact this
  obtain ⟨s3, hs3⟩ : ∃ s, s2 + p2 = s := ⟨_, rfl⟩
  have hfin : s3 = v := by omega
  have e0 : ((s0 : Int) + (p0 : Int)) % 4294967296 = ((s1 : Nat) : Int) := by omega
  have e1 : ((s1 : Int) + (p1 : Int)) % 4294967296 = ((s2 : Nat) : Int) := by omega
  have e2 : ((s2 : Int) + (p2 : Int)) % 4294967296 = ((s3 : Nat) : Int) := by omega
  subst hs0
  have K0 := Lib.hid (Blk.new W (instV ⟨op, form, frm, kind, rd, rs1, rs2, rs3, rm, 0, csr⟩) 27)
  have B0 := Lib.hid ((Below.refl W.heap.size W).alloc (Nat.le_refl _) (.cells (instV ⟨op, form, frm, kind, rd, rs1, rs2, rs3, rm, 0, csr⟩) 27))
  clear hM ho hv hlt M hp0 hp1 hp2 hs1 hs2 hs3
  go_enter Try.func26, Try.ntmps26
  go_wp2_with (first
    | (go_at_call 27; (with_reducible refine (CM.out _).mono ?_); rintro e w0 ⟨rfl, b0⟩; clear CM; have k0 := K0.out.call b0; have f0 := k0.cell 0; have f1 := k0.cell 1; have f2 := k0.cell 2; have f3 := k0.cell 3; simp only [List.getElem?_toArray, List.getElem?_cons_succ, List.getElem?_cons_zero] at f0 f1 f2 f3)
    | (go_at_call 47; (with_reducible refine (HC.out _).mono ?_); rintro e w1 ⟨⟨rr, nn, c, rfl, rfl, rfl⟩, b1⟩; clear HC f0 f1 f2 f3; have k1 := (k0.call b1).alloc (.cells (entV ⟨rop, rform, rfrm, rkind, rmask, rmtch, 6⟩ nn) 42); have n1 := Blk.new w1 (entV ⟨rop, rform, rfrm, rkind, rmask, rmtch, 6⟩ nn) 42)
    | (refine wpList_load_blk rfl _ _ rfl _ rfl _ _ _ K0.out Try.underlying27 rfl (by kernel_rfl) ?_))
  have d1 := (below_call (below_call B0.out b0) b1).alloc (below_call (below_call B0.out b0) b1).size (.cells (entV ⟨rop, rform, rfrm, rkind, rmask, rmtch, 6⟩ nn) 42)
  show Code.wp _ _ _ _ (w1.alloc (.cells (entV ⟨rop, rform, rfrm, rkind, rmask, rmtch, 6⟩ nn) 42))
  obtain ⟨V, hV⟩ : ∃ V, w1.alloc (.cells (entV ⟨rop, rform, rfrm, rkind, rmask, rmtch, 6⟩ nn) 42) = V := ⟨_, rfl⟩
  obtain ⟨gb, hgb⟩ : ∃ gb, w1.heap.size = gb := ⟨_, rfl⟩
  rw [hV] at k1 n1 d1 ⊢
  rw [hgb] at n1 ⊢
  clear hV hgb b1 k0
  have n5 := n1.cell 5
  have c5 := k1.cell 5
  have n6 := n1.cell 6
  simp only [List.getElem?_toArray, List.getElem?_cons_succ, List.getElem?_cons_zero] at n5 n6 c5
  have eW : IntKind.u32.wrap ((rmtch : Int) + (p0 : Int)) = ((s1 : Nat) : Int) := by have := e0; simp only [IntKind.wrap, IntKind.signed, IntKind.bits]; simpa using this
  refine wp_region_sets_lit (fun _ w' => ∃ q, w' = V.drewN q) (by kernel_rfl) (by kernel_rfl) ⟨1, rfl⟩ ?_
  (repeat (first | (refine sets_quiet (fun w' => ∃ q, w' = V.drewN q) (fun _ _ h => h) rfl (fun _ _ _ h => h) rfl ?_; intro K hK; go_big_quiet_op; first | go_big_quiet_on | (refine ⟨_, fun _ => rfl, ?_⟩; go_big_quiet_on)) | (refine sets_nil rfl (fun _ _ _ h => h) _ rfl _ rfl ?_; simp only [Act.put, List.setIfInBounds_toArray, List.set_cons_succ, List.set_cons_zero]) | (refine sets_skip rfl (fun _ _ _ h => h) ?_; simp only [Act.put, List.setIfInBounds_toArray, List.set_cons_succ, List.set_cons_zero])))
  refine sets_call (.int .u32 (p0 : Nat)) rfl 58 [_, _, _] _ rfl Try.f58 Try.func58 (by kernel_rfl) (by kernel_rfl) [.int .i64 15, .int .i64 5, .int .i64 (rs1 : Nat)] rfl (fun S X h1 h2 h3 => ?_) ?_
  · refine (P0.out X).mono ?_
    rintro e X2 ⟨rfl, rfl⟩
    exact ⟨rfl, h3⟩
  simp only [Act.put, List.setIfInBounds_toArray, List.set_cons_succ, List.set_cons_zero]
  (repeat (first | (refine sets_quiet (fun w' => ∃ q, w' = V.drewN q) (fun _ _ h => h) rfl (fun _ _ _ h => h) rfl ?_; intro K hK; go_big_quiet_op; first | go_big_quiet_on | (refine ⟨_, fun _ => rfl, ?_⟩; go_big_quiet_on)) | (refine sets_nil rfl (fun _ _ _ h => h) _ rfl _ rfl ?_; simp only [Act.put, List.setIfInBounds_toArray, List.set_cons_succ, List.set_cons_zero]) | (refine sets_skip rfl (fun _ _ _ h => h) ?_; simp only [Act.put, List.setIfInBounds_toArray, List.set_cons_succ, List.set_cons_zero])))
  rintro S _ _ ⟨nq, rfl⟩
  have HFIN := Lib.hid hfin
  clear eW hfin e0 P0 n5 c5
  go_upto_region 6 with (first
    | (go_at_call 59; (with_reducible refine (HF.out _).mono ?_); rintro e w2 ⟨rfl, b2⟩; clear HF n6; have kx := ((k1.drewN nq).call b2).alloc (.cells (hasV ⟨true, false, false, true, false, false⟩) 106); have nx := ((n1.drewN nq).call b2).alloc (.cells (hasV ⟨true, false, false, true, false, false⟩) 106); have kh := Blk.new w2 (hasV ⟨true, false, false, true, false, false⟩) 106; have d2 := below_call (below_drewN d1) b2; have d3 := d2.alloc d2.size (.cells (hasV ⟨true, false, false, true, false, false⟩) 106)))
  obtain ⟨V2, hV2⟩ : ∃ V2, w2.alloc (.cells (hasV ⟨true, false, false, true, false, false⟩) 106) = V2 := ⟨_, rfl⟩
  obtain ⟨hb, hhb⟩ : ∃ hb, w2.heap.size = hb := ⟨_, rfl⟩
  show Code.wp _ _ _ _ (w2.alloc (.cells (hasV ⟨true, false, false, true, false, false⟩) 106))
  rw [hV2] at kx nx kh d3 ⊢
  rw [hhb] at kh ⊢
  clear hV2 hhb d2 b2 d1 k1 n1 K0 B0
  have n6 := nx.cell 6
  have c5 := kx.cell 5
  have c4 := kx.cell 4
  have c8 := kx.cell 8
  have c9 := kx.cell 9
  have g0 := kh.cell 0
  have g1 := kh.cell 1
  have g2 := kh.cell 2
  have g3 := kh.cell 3
  have g4 := kh.cell 4
  have g5 := kh.cell 5
  simp only [List.getElem?_toArray, List.getElem?_cons_succ, List.getElem?_cons_zero] at n6 c5 c4 c8 c9 g0 g1 g2 g3 g4 g5
  clear kx nx kh
  go_wp2_with (first
    | (go_at_call 58; (with_reducible refine (P1.out _).mono ?_); rintro e w3 ⟨rfl, rfl⟩)
    | (go_at_call 58; (with_reducible refine (P2.out _).mono ?_); rintro e w3 ⟨rfl, rfl⟩))
  go_ret2
  refine ⟨?_, d3⟩
  show Ending.returned (.tuple #[.int .u32 (((s2 : Int) + (p2 : Int)) % 4294967296), .int .i64 0]) = _
  rw [e2, HFIN.out]
end Go.Proofs.Yteelconabmfnkaa

/- abacusref25.Encode: by the layout. -/
namespace Go.Proofs.Yteelconabmfnkaa
open Go Go.RowKit
set_option maxHeartbeats 4000000
set_option maxRecDepth 100000
set_option linter.unusedVariables false
set_option linter.unusedSimpArgs false
theorem renc_7 (W : World) (op form frm kind rd rs1 rs2 rs3 rm : Nat) (imm : Int) (csr : Nat) (rop rform rfrm rkind rmask rmtch : Nat) (hM : MAY ⟨op, form, frm, kind, rd, rs1, rs2, rs3, rm, imm, csr⟩ = true) (ho : OFS op form frm kind = some ⟨rop, rform, rfrm, rkind, rmask, rmtch, 7⟩) (M : Mays 7 ⟨op, form, frm, kind, rd, rs1, rs2, rs3, rm, imm, csr⟩) (v : Nat) (hv : rmtch + FW 7 ⟨op, form, frm, kind, rd, rs1, rs2, rs3, rm, imm, csr⟩ = v) (hlt : v < 4294967296) : Calls Try.prog 26 #[.agg (instV ⟨op, form, frm, kind, rd, rs1, rs2, rs3, rm, imm, csr⟩)] W fun e w' => e = .returned (.tuple #[.int .u32 (v : Nat), .int .i64 0]) ∧ Below W.heap.size W w' := by
  have CM := Lib.hid (fun X => rmay_c X ⟨op, form, frm, kind, rd, rs1, rs2, rs3, rm, imm, csr⟩)
  rw [hM] at CM
  have HC := Lib.hid (rof_is ⟨op, form, frm, kind, rd, rs1, rs2, rs3, rm, imm, csr⟩ (some ⟨rop, rform, rfrm, rkind, rmask, rmtch, 7⟩) ho)
  simp only [] at HC
  have HF : Hid (∀ X, Calls Try.prog 59 #[.int .u8 7] X fun e w' => e = .returned (.agg (hasV ⟨true, false, false, false, false, false⟩)) ∧ Below X.heap.size X w') := Lib.hid (fun X => fields_c X 7 (by decide))
  have h1 : rd < 32 := M.rd
  have h2 : rs1 < 32 := M.rs1
  have h3 : rs2 < 32 := M.rs2
  have h4 : rs3 < 32 := M.rs3
  have h5 : rm < 8 := M.rm
  have h8 : -2048 ≤ imm := M.imm1
  have h9 : imm < 2048 := M.imm2
  have h10 : csr ≤ 3 := M.csr
  simp only [FW] at hv
  have hi0 : imm = 0 := M.zimm (by decide)
  subst hi0
  obtain ⟨s0, hs0⟩ : ∃ s, rmtch = s := ⟨_, rfl⟩
  obtain ⟨p0, hp0⟩ : ∃ p, rs1 * 32768 = p := ⟨_, rfl⟩
  have P0 : Hid (∀ X, Calls Try.prog 58 #[.int .i64 15, .int .i64 5, .int .i64 (rs1 : Nat)] X fun e w' => e = .returned (.int .u32 (p0 : Nat)) ∧ w' = X) := Lib.hid fun X => by
    have := put_c X 15 5 rs1 (by omega) (by omega)
    rw [Nat.mod_eq_of_lt (show rs1 < 2 ^ 5 by omega), show rs1 * 2 ^ 15 = p0 from by rw [← hp0]] at this
    exact this
  obtain ⟨s1, hs1⟩ : ∃ s, s0 + p0 = s := ⟨_, rfl⟩
  obtain ⟨p1, hp1⟩ : ∃ p, rd * 128 = p := ⟨_, rfl⟩
  have P1 : Hid (∀ X, Calls Try.prog 58 #[.int .i64 7, .int .i64 5, .int .i64 (rd : Nat)] X fun e w' => e = .returned (.int .u32 (p1 : Nat)) ∧ w' = X) := Lib.hid fun X => by
    have := put_c X 7 5 rd (by omega) (by omega)
    rw [Nat.mod_eq_of_lt (show rd < 2 ^ 5 by omega), show rd * 2 ^ 7 = p1 from by rw [← hp1]] at this
    exact this
  obtain ⟨s2, hs2⟩ : ∃ s, s1 + p1 = s := ⟨_, rfl⟩
  have hfin : s2 = v := by omega
  have e0 : ((s0 : Int) + (p0 : Int)) % 4294967296 = ((s1 : Nat) : Int) := by omega
  have e1 : ((s1 : Int) + (p1 : Int)) % 4294967296 = ((s2 : Nat) : Int) := by omega
  subst hs0
  have K0 := Lib.hid (Blk.new W (instV ⟨op, form, frm, kind, rd, rs1, rs2, rs3, rm, 0, csr⟩) 27)
  have B0 := Lib.hid ((Below.refl W.heap.size W).alloc (Nat.le_refl _) (.cells (instV ⟨op, form, frm, kind, rd, rs1, rs2, rs3, rm, 0, csr⟩) 27))
  clear hM ho hv hlt M hp0 hp1 hs1 hs2
  go_enter Try.func26, Try.ntmps26
  go_wp2_with (first
    | (go_at_call 27; (with_reducible refine (CM.out _).mono ?_); rintro e w0 ⟨rfl, b0⟩; clear CM; have k0 := K0.out.call b0; have f0 := k0.cell 0; have f1 := k0.cell 1; have f2 := k0.cell 2; have f3 := k0.cell 3; simp only [List.getElem?_toArray, List.getElem?_cons_succ, List.getElem?_cons_zero] at f0 f1 f2 f3)
    | (go_at_call 47; (with_reducible refine (HC.out _).mono ?_); rintro e w1 ⟨⟨rr, nn, c, rfl, rfl, rfl⟩, b1⟩; clear HC f0 f1 f2 f3; have k1 := (k0.call b1).alloc (.cells (entV ⟨rop, rform, rfrm, rkind, rmask, rmtch, 7⟩ nn) 42); have n1 := Blk.new w1 (entV ⟨rop, rform, rfrm, rkind, rmask, rmtch, 7⟩ nn) 42)
    | (refine wpList_load_blk rfl _ _ rfl _ rfl _ _ _ K0.out Try.underlying27 rfl (by kernel_rfl) ?_))
  have d1 := (below_call (below_call B0.out b0) b1).alloc (below_call (below_call B0.out b0) b1).size (.cells (entV ⟨rop, rform, rfrm, rkind, rmask, rmtch, 7⟩ nn) 42)
  show Code.wp _ _ _ _ (w1.alloc (.cells (entV ⟨rop, rform, rfrm, rkind, rmask, rmtch, 7⟩ nn) 42))
  obtain ⟨V, hV⟩ : ∃ V, w1.alloc (.cells (entV ⟨rop, rform, rfrm, rkind, rmask, rmtch, 7⟩ nn) 42) = V := ⟨_, rfl⟩
  obtain ⟨gb, hgb⟩ : ∃ gb, w1.heap.size = gb := ⟨_, rfl⟩
  rw [hV] at k1 n1 d1 ⊢
  rw [hgb] at n1 ⊢
  clear hV hgb b1 k0
  have n5 := n1.cell 5
  have c5 := k1.cell 5
  have n6 := n1.cell 6
  simp only [List.getElem?_toArray, List.getElem?_cons_succ, List.getElem?_cons_zero] at n5 n6 c5
  have eW : IntKind.u32.wrap ((rmtch : Int) + (p0 : Int)) = ((s1 : Nat) : Int) := by have := e0; simp only [IntKind.wrap, IntKind.signed, IntKind.bits]; simpa using this
  refine wp_region_sets_lit (fun _ w' => ∃ q, w' = V.drewN q) (by kernel_rfl) (by kernel_rfl) ⟨1, rfl⟩ ?_
  (repeat (first | (refine sets_quiet (fun w' => ∃ q, w' = V.drewN q) (fun _ _ h => h) rfl (fun _ _ _ h => h) rfl ?_; intro K hK; go_big_quiet_op; first | go_big_quiet_on | (refine ⟨_, fun _ => rfl, ?_⟩; go_big_quiet_on)) | (refine sets_nil rfl (fun _ _ _ h => h) _ rfl _ rfl ?_; simp only [Act.put, List.setIfInBounds_toArray, List.set_cons_succ, List.set_cons_zero]) | (refine sets_skip rfl (fun _ _ _ h => h) ?_; simp only [Act.put, List.setIfInBounds_toArray, List.set_cons_succ, List.set_cons_zero])))
  refine sets_call (.int .u32 (p0 : Nat)) rfl 58 [_, _, _] _ rfl Try.f58 Try.func58 (by kernel_rfl) (by kernel_rfl) [.int .i64 15, .int .i64 5, .int .i64 (rs1 : Nat)] rfl (fun S X h1 h2 h3 => ?_) ?_
  · refine (P0.out X).mono ?_
    rintro e X2 ⟨rfl, rfl⟩
    exact ⟨rfl, h3⟩
  simp only [Act.put, List.setIfInBounds_toArray, List.set_cons_succ, List.set_cons_zero]
  (repeat (first | (refine sets_quiet (fun w' => ∃ q, w' = V.drewN q) (fun _ _ h => h) rfl (fun _ _ _ h => h) rfl ?_; intro K hK; go_big_quiet_op; first | go_big_quiet_on | (refine ⟨_, fun _ => rfl, ?_⟩; go_big_quiet_on)) | (refine sets_nil rfl (fun _ _ _ h => h) _ rfl _ rfl ?_; simp only [Act.put, List.setIfInBounds_toArray, List.set_cons_succ, List.set_cons_zero]) | (refine sets_skip rfl (fun _ _ _ h => h) ?_; simp only [Act.put, List.setIfInBounds_toArray, List.set_cons_succ, List.set_cons_zero])))
  rintro S _ _ ⟨nq, rfl⟩
  have HFIN := Lib.hid hfin
  clear eW hfin e0 P0 n5 c5
  go_upto_region 6 with (first
    | (go_at_call 59; (with_reducible refine (HF.out _).mono ?_); rintro e w2 ⟨rfl, b2⟩; clear HF n6; have kx := ((k1.drewN nq).call b2).alloc (.cells (hasV ⟨true, false, false, false, false, false⟩) 106); have nx := ((n1.drewN nq).call b2).alloc (.cells (hasV ⟨true, false, false, false, false, false⟩) 106); have kh := Blk.new w2 (hasV ⟨true, false, false, false, false, false⟩) 106; have d2 := below_call (below_drewN d1) b2; have d3 := d2.alloc d2.size (.cells (hasV ⟨true, false, false, false, false, false⟩) 106)))
  obtain ⟨V2, hV2⟩ : ∃ V2, w2.alloc (.cells (hasV ⟨true, false, false, false, false, false⟩) 106) = V2 := ⟨_, rfl⟩
  obtain ⟨hb, hhb⟩ : ∃ hb, w2.heap.size = hb := ⟨_, rfl⟩
  show Code.wp _ _ _ _ (w2.alloc (.cells (hasV ⟨true, false, false, false, false, false⟩) 106))
  rw [hV2] at kx nx kh d3 ⊢
  rw [hhb] at kh ⊢
  clear hV2 hhb d2 b2 d1 k1 n1 K0 B0
  have n6 := nx.cell 6
  have c5 := kx.cell 5
  have c4 := kx.cell 4
  have c9 := kx.cell 9
  have g0 := kh.cell 0
  have g1 := kh.cell 1
  have g2 := kh.cell 2
  have g3 := kh.cell 3
  have g4 := kh.cell 4
  have g5 := kh.cell 5
  simp only [List.getElem?_toArray, List.getElem?_cons_succ, List.getElem?_cons_zero] at n6 c5 c4 c9 g0 g1 g2 g3 g4 g5
  clear kx nx kh
  go_wp2_with (first
    | (go_at_call 58; (with_reducible refine (P1.out _).mono ?_); rintro e w3 ⟨rfl, rfl⟩))
  go_ret2
  refine ⟨?_, d3⟩
  show Ending.returned (.tuple #[.int .u32 (((s1 : Int) + (p1 : Int)) % 4294967296), .int .i64 0]) = _
  rw [e1, HFIN.out]
theorem renc_8 (W : World) (op form frm kind rd rs1 rs2 rs3 rm : Nat) (imm : Int) (csr : Nat) (rop rform rfrm rkind rmask rmtch : Nat) (hM : MAY ⟨op, form, frm, kind, rd, rs1, rs2, rs3, rm, imm, csr⟩ = true) (ho : OFS op form frm kind = some ⟨rop, rform, rfrm, rkind, rmask, rmtch, 8⟩) (M : Mays 8 ⟨op, form, frm, kind, rd, rs1, rs2, rs3, rm, imm, csr⟩) (v : Nat) (hv : rmtch + FW 8 ⟨op, form, frm, kind, rd, rs1, rs2, rs3, rm, imm, csr⟩ = v) (hlt : v < 4294967296) : Calls Try.prog 26 #[.agg (instV ⟨op, form, frm, kind, rd, rs1, rs2, rs3, rm, imm, csr⟩)] W fun e w' => e = .returned (.tuple #[.int .u32 (v : Nat), .int .i64 0]) ∧ Below W.heap.size W w' := by
  have CM := Lib.hid (fun X => rmay_c X ⟨op, form, frm, kind, rd, rs1, rs2, rs3, rm, imm, csr⟩)
  rw [hM] at CM
  have HC := Lib.hid (rof_is ⟨op, form, frm, kind, rd, rs1, rs2, rs3, rm, imm, csr⟩ (some ⟨rop, rform, rfrm, rkind, rmask, rmtch, 8⟩) ho)
  simp only [] at HC
  have HF : Hid (∀ X, Calls Try.prog 59 #[.int .u8 8] X fun e w' => e = .returned (.agg (hasV ⟨true, false, false, false, false, true⟩)) ∧ Below X.heap.size X w') := Lib.hid (fun X => fields_c X 8 (by decide))
  have h1 : rd < 32 := M.rd
  have h2 : rs1 < 32 := M.rs1
  have h3 : rs2 < 32 := M.rs2
  have h4 : rs3 < 32 := M.rs3
  have h5 : rm < 8 := M.rm
  have h8 : -2048 ≤ imm := M.imm1
  have h9 : imm < 2048 := M.imm2
  have h10 : csr ≤ 3 := M.csr
  simp only [FW] at hv
  have hi0 : imm = 0 := M.zimm (by decide)
  subst hi0
  obtain ⟨s0, hs0⟩ : ∃ s, rmtch = s := ⟨_, rfl⟩
  obtain ⟨p0, hp0⟩ : ∃ p, rs1 * 32768 = p := ⟨_, rfl⟩
  have P0 : Hid (∀ X, Calls Try.prog 58 #[.int .i64 15, .int .i64 5, .int .i64 (rs1 : Nat)] X fun e w' => e = .returned (.int .u32 (p0 : Nat)) ∧ w' = X) := Lib.hid fun X => by
    have := put_c X 15 5 rs1 (by omega) (by omega)
    rw [Nat.mod_eq_of_lt (show rs1 < 2 ^ 5 by omega), show rs1 * 2 ^ 15 = p0 from by rw [← hp0]] at this
    exact this
  obtain ⟨s1, hs1⟩ : ∃ s, s0 + p0 = s := ⟨_, rfl⟩
  obtain ⟨p1, hp1⟩ : ∃ p, rd * 128 = p := ⟨_, rfl⟩
  have P1 : Hid (∀ X, Calls Try.prog 58 #[.int .i64 7, .int .i64 5, .int .i64 (rd : Nat)] X fun e w' => e = .returned (.int .u32 (p1 : Nat)) ∧ w' = X) := Lib.hid fun X => by
    have := put_c X 7 5 rd (by omega) (by omega)
    rw [Nat.mod_eq_of_lt (show rd < 2 ^ 5 by omega), show rd * 2 ^ 7 = p1 from by rw [← hp1]] at this
    exact this
  obtain ⟨s2, hs2⟩ : ∃ s, s1 + p1 = s := ⟨_, rfl⟩
  obtain ⟨p2, hp2⟩ : ∃ p, csr * 1048576 = p := ⟨_, rfl⟩
  have P2 : Hid (∀ X, Calls Try.prog 58 #[.int .i64 20, .int .i64 12, .int .i64 (csr : Nat)] X fun e w' => e = .returned (.int .u32 (p2 : Nat)) ∧ w' = X) := Lib.hid fun X => by
    have := put_c X 20 12 csr (by omega) (by omega)
    rw [Nat.mod_eq_of_lt (show csr < 2 ^ 12 by omega), show csr * 2 ^ 20 = p2 from by rw [← hp2]] at this
    exact this
  obtain ⟨s3, hs3⟩ : ∃ s, s2 + p2 = s := ⟨_, rfl⟩
  have hfin : s3 = v := by omega
  have e0 : ((s0 : Int) + (p0 : Int)) % 4294967296 = ((s1 : Nat) : Int) := by omega
  have e1 : ((s1 : Int) + (p1 : Int)) % 4294967296 = ((s2 : Nat) : Int) := by omega
  have e2 : ((s2 : Int) + (p2 : Int)) % 4294967296 = ((s3 : Nat) : Int) := by omega
  subst hs0
  have K0 := Lib.hid (Blk.new W (instV ⟨op, form, frm, kind, rd, rs1, rs2, rs3, rm, 0, csr⟩) 27)
  have B0 := Lib.hid ((Below.refl W.heap.size W).alloc (Nat.le_refl _) (.cells (instV ⟨op, form, frm, kind, rd, rs1, rs2, rs3, rm, 0, csr⟩) 27))
  clear hM ho hv hlt M hp0 hp1 hp2 hs1 hs2 hs3
  go_enter Try.func26, Try.ntmps26
  go_wp2_with (first
    | (go_at_call 27; (with_reducible refine (CM.out _).mono ?_); rintro e w0 ⟨rfl, b0⟩; clear CM; have k0 := K0.out.call b0; have f0 := k0.cell 0; have f1 := k0.cell 1; have f2 := k0.cell 2; have f3 := k0.cell 3; simp only [List.getElem?_toArray, List.getElem?_cons_succ, List.getElem?_cons_zero] at f0 f1 f2 f3)
    | (go_at_call 47; (with_reducible refine (HC.out _).mono ?_); rintro e w1 ⟨⟨rr, nn, c, rfl, rfl, rfl⟩, b1⟩; clear HC f0 f1 f2 f3; have k1 := (k0.call b1).alloc (.cells (entV ⟨rop, rform, rfrm, rkind, rmask, rmtch, 8⟩ nn) 42); have n1 := Blk.new w1 (entV ⟨rop, rform, rfrm, rkind, rmask, rmtch, 8⟩ nn) 42)
    | (refine wpList_load_blk rfl _ _ rfl _ rfl _ _ _ K0.out Try.underlying27 rfl (by kernel_rfl) ?_))
  have d1 := (below_call (below_call B0.out b0) b1).alloc (below_call (below_call B0.out b0) b1).size (.cells (entV ⟨rop, rform, rfrm, rkind, rmask, rmtch, 8⟩ nn) 42)
  show Code.wp _ _ _ _ (w1.alloc (.cells (entV ⟨rop, rform, rfrm, rkind, rmask, rmtch, 8⟩ nn) 42))
  obtain ⟨V, hV⟩ : ∃ V, w1.alloc (.cells (entV ⟨rop, rform, rfrm, rkind, rmask, rmtch, 8⟩ nn) 42) = V := ⟨_, rfl⟩
  obtain ⟨gb, hgb⟩ : ∃ gb, w1.heap.size = gb := ⟨_, rfl⟩
  rw [hV] at k1 n1 d1 ⊢
  rw [hgb] at n1 ⊢
  clear hV hgb b1 k0
  have n5 := n1.cell 5
  have c5 := k1.cell 5
  have n6 := n1.cell 6
  simp only [List.getElem?_toArray, List.getElem?_cons_succ, List.getElem?_cons_zero] at n5 n6 c5
  have eW : IntKind.u32.wrap ((rmtch : Int) + (p0 : Int)) = ((s1 : Nat) : Int) := by have := e0; simp only [IntKind.wrap, IntKind.signed, IntKind.bits]; simpa using this
  refine wp_region_sets_lit (fun _ w' => ∃ q, w' = V.drewN q) (by kernel_rfl) (by kernel_rfl) ⟨1, rfl⟩ ?_
  (repeat (first | (refine sets_quiet (fun w' => ∃ q, w' = V.drewN q) (fun _ _ h => h) rfl (fun _ _ _ h => h) rfl ?_; intro K hK; go_big_quiet_op; first | go_big_quiet_on | (refine ⟨_, fun _ => rfl, ?_⟩; go_big_quiet_on)) | (refine sets_nil rfl (fun _ _ _ h => h) _ rfl _ rfl ?_; simp only [Act.put, List.setIfInBounds_toArray, List.set_cons_succ, List.set_cons_zero]) | (refine sets_skip rfl (fun _ _ _ h => h) ?_; simp only [Act.put, List.setIfInBounds_toArray, List.set_cons_succ, List.set_cons_zero])))
  refine sets_call (.int .u32 (p0 : Nat)) rfl 58 [_, _, _] _ rfl Try.f58 Try.func58 (by kernel_rfl) (by kernel_rfl) [.int .i64 15, .int .i64 5, .int .i64 (rs1 : Nat)] rfl (fun S X h1 h2 h3 => ?_) ?_
  · refine (P0.out X).mono ?_
    rintro e X2 ⟨rfl, rfl⟩
    exact ⟨rfl, h3⟩
  simp only [Act.put, List.setIfInBounds_toArray, List.set_cons_succ, List.set_cons_zero]
  (repeat (first | (refine sets_quiet (fun w' => ∃ q, w' = V.drewN q) (fun _ _ h => h) rfl (fun _ _ _ h => h) rfl ?_; intro K hK; go_big_quiet_op; first | go_big_quiet_on | (refine ⟨_, fun _ => rfl, ?_⟩; go_big_quiet_on)) | (refine sets_nil rfl (fun _ _ _ h => h) _ rfl _ rfl ?_; simp only [Act.put, List.setIfInBounds_toArray, List.set_cons_succ, List.set_cons_zero]) | (refine sets_skip rfl (fun _ _ _ h => h) ?_; simp only [Act.put, List.setIfInBounds_toArray, List.set_cons_succ, List.set_cons_zero])))
  rintro S _ _ ⟨nq, rfl⟩
  have HFIN := Lib.hid hfin
  clear eW hfin e0 P0 n5 c5
  go_upto_region 6 with (first
    | (go_at_call 59; (with_reducible refine (HF.out _).mono ?_); rintro e w2 ⟨rfl, b2⟩; clear HF n6; have kx := ((k1.drewN nq).call b2).alloc (.cells (hasV ⟨true, false, false, false, false, true⟩) 106); have nx := ((n1.drewN nq).call b2).alloc (.cells (hasV ⟨true, false, false, false, false, true⟩) 106); have kh := Blk.new w2 (hasV ⟨true, false, false, false, false, true⟩) 106; have d2 := below_call (below_drewN d1) b2; have d3 := d2.alloc d2.size (.cells (hasV ⟨true, false, false, false, false, true⟩) 106)))
  obtain ⟨V2, hV2⟩ : ∃ V2, w2.alloc (.cells (hasV ⟨true, false, false, false, false, true⟩) 106) = V2 := ⟨_, rfl⟩
  obtain ⟨hb, hhb⟩ : ∃ hb, w2.heap.size = hb := ⟨_, rfl⟩
  show Code.wp _ _ _ _ (w2.alloc (.cells (hasV ⟨true, false, false, false, false, true⟩) 106))
  rw [hV2] at kx nx kh d3 ⊢
  rw [hhb] at kh ⊢
  clear hV2 hhb d2 b2 d1 k1 n1 K0 B0
  have n6 := nx.cell 6
  have c5 := kx.cell 5
  have c4 := kx.cell 4
  have c10 := kx.cell 10
  have c9 := kx.cell 9
  have g0 := kh.cell 0
  have g1 := kh.cell 1
  have g2 := kh.cell 2
  have g3 := kh.cell 3
  have g4 := kh.cell 4
  have g5 := kh.cell 5
  simp only [List.getElem?_toArray, List.getElem?_cons_succ, List.getElem?_cons_zero] at n6 c5 c4 c10 c9 g0 g1 g2 g3 g4 g5
  clear kx nx kh
  go_wp2_with (first
    | (go_at_call 58; (with_reducible refine (P1.out _).mono ?_); rintro e w3 ⟨rfl, rfl⟩)
    | (go_at_call 58; (with_reducible refine (P2.out _).mono ?_); rintro e w3 ⟨rfl, rfl⟩))
  go_ret2
  refine ⟨?_, d3⟩
  show Ending.returned (.tuple #[.int .u32 (((s2 : Int) + (p2 : Int)) % 4294967296), .int .i64 0]) = _
  rw [e2, HFIN.out]
theorem renc_9 (W : World) (op form frm kind rd rs1 rs2 rs3 rm : Nat) (imm : Int) (csr : Nat) (rop rform rfrm rkind rmask rmtch : Nat) (hM : MAY ⟨op, form, frm, kind, rd, rs1, rs2, rs3, rm, imm, csr⟩ = true) (ho : OFS op form frm kind = some ⟨rop, rform, rfrm, rkind, rmask, rmtch, 9⟩) (M : Mays 9 ⟨op, form, frm, kind, rd, rs1, rs2, rs3, rm, imm, csr⟩) (v : Nat) (hv : rmtch + FW 9 ⟨op, form, frm, kind, rd, rs1, rs2, rs3, rm, imm, csr⟩ = v) (hlt : v < 4294967296) : Calls Try.prog 26 #[.agg (instV ⟨op, form, frm, kind, rd, rs1, rs2, rs3, rm, imm, csr⟩)] W fun e w' => e = .returned (.tuple #[.int .u32 (v : Nat), .int .i64 0]) ∧ Below W.heap.size W w' := by
  have CM := Lib.hid (fun X => rmay_c X ⟨op, form, frm, kind, rd, rs1, rs2, rs3, rm, imm, csr⟩)
  rw [hM] at CM
  have HC := Lib.hid (rof_is ⟨op, form, frm, kind, rd, rs1, rs2, rs3, rm, imm, csr⟩ (some ⟨rop, rform, rfrm, rkind, rmask, rmtch, 9⟩) ho)
  simp only [] at HC
  have HF : Hid (∀ X, Calls Try.prog 59 #[.int .u8 9] X fun e w' => e = .returned (.agg (hasV ⟨true, false, false, false, false, true⟩)) ∧ Below X.heap.size X w') := Lib.hid (fun X => fields_c X 9 (by decide))
  have h1 : rd < 32 := M.rd
  have h2 : rs1 < 32 := M.rs1
  have h3 : rs2 < 32 := M.rs2
  have h4 : rs3 < 32 := M.rs3
  have h5 : rm < 8 := M.rm
  have h8 : -2048 ≤ imm := M.imm1
  have h9 : imm < 2048 := M.imm2
  have h10 : csr ≤ 3 := M.csr
  simp only [FW] at hv
  have hi0 : imm = 0 := M.zimm (by decide)
  subst hi0
  obtain ⟨s0, hs0⟩ : ∃ s, rmtch = s := ⟨_, rfl⟩
  obtain ⟨p0, hp0⟩ : ∃ p, rs1 * 32768 = p := ⟨_, rfl⟩
  have P0 : Hid (∀ X, Calls Try.prog 58 #[.int .i64 15, .int .i64 5, .int .i64 (rs1 : Nat)] X fun e w' => e = .returned (.int .u32 (p0 : Nat)) ∧ w' = X) := Lib.hid fun X => by
    have := put_c X 15 5 rs1 (by omega) (by omega)
    rw [Nat.mod_eq_of_lt (show rs1 < 2 ^ 5 by omega), show rs1 * 2 ^ 15 = p0 from by rw [← hp0]] at this
    exact this
  obtain ⟨s1, hs1⟩ : ∃ s, s0 + p0 = s := ⟨_, rfl⟩
  obtain ⟨p1, hp1⟩ : ∃ p, rd * 128 = p := ⟨_, rfl⟩
  have P1 : Hid (∀ X, Calls Try.prog 58 #[.int .i64 7, .int .i64 5, .int .i64 (rd : Nat)] X fun e w' => e = .returned (.int .u32 (p1 : Nat)) ∧ w' = X) := Lib.hid fun X => by
    have := put_c X 7 5 rd (by omega) (by omega)
    rw [Nat.mod_eq_of_lt (show rd < 2 ^ 5 by omega), show rd * 2 ^ 7 = p1 from by rw [← hp1]] at this
    exact this
  obtain ⟨s2, hs2⟩ : ∃ s, s1 + p1 = s := ⟨_, rfl⟩
  obtain ⟨p2, hp2⟩ : ∃ p, csr * 1048576 = p := ⟨_, rfl⟩
  have P2 : Hid (∀ X, Calls Try.prog 58 #[.int .i64 20, .int .i64 12, .int .i64 (csr : Nat)] X fun e w' => e = .returned (.int .u32 (p2 : Nat)) ∧ w' = X) := Lib.hid fun X => by
    have := put_c X 20 12 csr (by omega) (by omega)
    rw [Nat.mod_eq_of_lt (show csr < 2 ^ 12 by omega), show csr * 2 ^ 20 = p2 from by rw [← hp2]] at this
    exact this
  obtain ⟨s3, hs3⟩ : ∃ s, s2 + p2 = s := ⟨_, rfl⟩
  have hfin : s3 = v := by omega
  have e0 : ((s0 : Int) + (p0 : Int)) % 4294967296 = ((s1 : Nat) : Int) := by omega
  have e1 : ((s1 : Int) + (p1 : Int)) % 4294967296 = ((s2 : Nat) : Int) := by omega
  have e2 : ((s2 : Int) + (p2 : Int)) % 4294967296 = ((s3 : Nat) : Int) := by omega
  subst hs0
  have K0 := Lib.hid (Blk.new W (instV ⟨op, form, frm, kind, rd, rs1, rs2, rs3, rm, 0, csr⟩) 27)
  have B0 := Lib.hid ((Below.refl W.heap.size W).alloc (Nat.le_refl _) (.cells (instV ⟨op, form, frm, kind, rd, rs1, rs2, rs3, rm, 0, csr⟩) 27))
  clear hM ho hv hlt M hp0 hp1 hp2 hs1 hs2 hs3
  go_enter Try.func26, Try.ntmps26
  go_wp2_with (first
    | (go_at_call 27; (with_reducible refine (CM.out _).mono ?_); rintro e w0 ⟨rfl, b0⟩; clear CM; have k0 := K0.out.call b0; have f0 := k0.cell 0; have f1 := k0.cell 1; have f2 := k0.cell 2; have f3 := k0.cell 3; simp only [List.getElem?_toArray, List.getElem?_cons_succ, List.getElem?_cons_zero] at f0 f1 f2 f3)
    | (go_at_call 47; (with_reducible refine (HC.out _).mono ?_); rintro e w1 ⟨⟨rr, nn, c, rfl, rfl, rfl⟩, b1⟩; clear HC f0 f1 f2 f3; have k1 := (k0.call b1).alloc (.cells (entV ⟨rop, rform, rfrm, rkind, rmask, rmtch, 9⟩ nn) 42); have n1 := Blk.new w1 (entV ⟨rop, rform, rfrm, rkind, rmask, rmtch, 9⟩ nn) 42)
    | (refine wpList_load_blk rfl _ _ rfl _ rfl _ _ _ K0.out Try.underlying27 rfl (by kernel_rfl) ?_))
  have d1 := (below_call (below_call B0.out b0) b1).alloc (below_call (below_call B0.out b0) b1).size (.cells (entV ⟨rop, rform, rfrm, rkind, rmask, rmtch, 9⟩ nn) 42)
  show Code.wp _ _ _ _ (w1.alloc (.cells (entV ⟨rop, rform, rfrm, rkind, rmask, rmtch, 9⟩ nn) 42))
  obtain ⟨V, hV⟩ : ∃ V, w1.alloc (.cells (entV ⟨rop, rform, rfrm, rkind, rmask, rmtch, 9⟩ nn) 42) = V := ⟨_, rfl⟩
  obtain ⟨gb, hgb⟩ : ∃ gb, w1.heap.size = gb := ⟨_, rfl⟩
  rw [hV] at k1 n1 d1 ⊢
  rw [hgb] at n1 ⊢
  clear hV hgb b1 k0
  have n5 := n1.cell 5
  have c5 := k1.cell 5
  have n6 := n1.cell 6
  simp only [List.getElem?_toArray, List.getElem?_cons_succ, List.getElem?_cons_zero] at n5 n6 c5
  have eW : IntKind.u32.wrap ((rmtch : Int) + (p0 : Int)) = ((s1 : Nat) : Int) := by have := e0; simp only [IntKind.wrap, IntKind.signed, IntKind.bits]; simpa using this
  refine wp_region_sets_lit (fun _ w' => ∃ q, w' = V.drewN q) (by kernel_rfl) (by kernel_rfl) ⟨1, rfl⟩ ?_
  (repeat (first | (refine sets_quiet (fun w' => ∃ q, w' = V.drewN q) (fun _ _ h => h) rfl (fun _ _ _ h => h) rfl ?_; intro K hK; go_big_quiet_op; first | go_big_quiet_on | (refine ⟨_, fun _ => rfl, ?_⟩; go_big_quiet_on)) | (refine sets_nil rfl (fun _ _ _ h => h) _ rfl _ rfl ?_; simp only [Act.put, List.setIfInBounds_toArray, List.set_cons_succ, List.set_cons_zero]) | (refine sets_skip rfl (fun _ _ _ h => h) ?_; simp only [Act.put, List.setIfInBounds_toArray, List.set_cons_succ, List.set_cons_zero])))
  refine sets_call (.int .u32 (p0 : Nat)) rfl 58 [_, _, _] _ rfl Try.f58 Try.func58 (by kernel_rfl) (by kernel_rfl) [.int .i64 15, .int .i64 5, .int .i64 (rs1 : Nat)] rfl (fun S X h1 h2 h3 => ?_) ?_
  · refine (P0.out X).mono ?_
    rintro e X2 ⟨rfl, rfl⟩
    exact ⟨rfl, h3⟩
  simp only [Act.put, List.setIfInBounds_toArray, List.set_cons_succ, List.set_cons_zero]
  (repeat (first | (refine sets_quiet (fun w' => ∃ q, w' = V.drewN q) (fun _ _ h => h) rfl (fun _ _ _ h => h) rfl ?_; intro K hK; go_big_quiet_op; first | go_big_quiet_on | (refine ⟨_, fun _ => rfl, ?_⟩; go_big_quiet_on)) | (refine sets_nil rfl (fun _ _ _ h => h) _ rfl _ rfl ?_; simp only [Act.put, List.setIfInBounds_toArray, List.set_cons_succ, List.set_cons_zero]) | (refine sets_skip rfl (fun _ _ _ h => h) ?_; simp only [Act.put, List.setIfInBounds_toArray, List.set_cons_succ, List.set_cons_zero])))
  rintro S _ _ ⟨nq, rfl⟩
  have HFIN := Lib.hid hfin
  clear eW hfin e0 P0 n5 c5
  go_upto_region 6 with (first
    | (go_at_call 59; (with_reducible refine (HF.out _).mono ?_); rintro e w2 ⟨rfl, b2⟩; clear HF n6; have kx := ((k1.drewN nq).call b2).alloc (.cells (hasV ⟨true, false, false, false, false, true⟩) 106); have nx := ((n1.drewN nq).call b2).alloc (.cells (hasV ⟨true, false, false, false, false, true⟩) 106); have kh := Blk.new w2 (hasV ⟨true, false, false, false, false, true⟩) 106; have d2 := below_call (below_drewN d1) b2; have d3 := d2.alloc d2.size (.cells (hasV ⟨true, false, false, false, false, true⟩) 106)))
  obtain ⟨V2, hV2⟩ : ∃ V2, w2.alloc (.cells (hasV ⟨true, false, false, false, false, true⟩) 106) = V2 := ⟨_, rfl⟩
  obtain ⟨hb, hhb⟩ : ∃ hb, w2.heap.size = hb := ⟨_, rfl⟩
  show Code.wp _ _ _ _ (w2.alloc (.cells (hasV ⟨true, false, false, false, false, true⟩) 106))
  rw [hV2] at kx nx kh d3 ⊢
  rw [hhb] at kh ⊢
  clear hV2 hhb d2 b2 d1 k1 n1 K0 B0
  have n6 := nx.cell 6
  have c5 := kx.cell 5
  have c4 := kx.cell 4
  have c10 := kx.cell 10
  have c9 := kx.cell 9
  have g0 := kh.cell 0
  have g1 := kh.cell 1
  have g2 := kh.cell 2
  have g3 := kh.cell 3
  have g4 := kh.cell 4
  have g5 := kh.cell 5
  simp only [List.getElem?_toArray, List.getElem?_cons_succ, List.getElem?_cons_zero] at n6 c5 c4 c10 c9 g0 g1 g2 g3 g4 g5
  clear kx nx kh
  go_wp2_with (first
    | (go_at_call 58; (with_reducible refine (P1.out _).mono ?_); rintro e w3 ⟨rfl, rfl⟩)
    | (go_at_call 58; (with_reducible refine (P2.out _).mono ?_); rintro e w3 ⟨rfl, rfl⟩))
  go_ret2
  refine ⟨?_, d3⟩
  show Ending.returned (.tuple #[.int .u32 (((s2 : Int) + (p2 : Int)) % 4294967296), .int .i64 0]) = _
  rw [e2, HFIN.out]
end Go.Proofs.Yteelconabmfnkaa

/- abacusref25.Encode: its contract. -/
namespace Go.Proofs.Yteelconabmfnkaa
open Go Go.RowKit
set_option maxHeartbeats 4000000
set_option maxRecDepth 100000
set_option linter.unusedVariables false
set_option linter.unusedSimpArgs false
theorem renc_no (W : World) (x : I11) (hM : MAY x = false) : Calls Try.prog 26 #[.agg (instV x)] W fun e w' => e = .returned (.tuple #[.int .u32 0, .int .i64 260]) ∧ Below W.heap.size W w' := by
  have CM := Lib.hid (fun X => rmay_c X x)
  rw [hM] at CM
  clear hM
  obtain ⟨op, form, frm, kind, rd, rs1, rs2, rs3, rm, imm, csr⟩ := x
  have K0 := Lib.hid (Blk.new W (instV ⟨op, form, frm, kind, rd, rs1, rs2, rs3, rm, imm, csr⟩) 27)
  have B0 := Lib.hid ((Below.refl W.heap.size W).alloc (Nat.le_refl _) (.cells (instV ⟨op, form, frm, kind, rd, rs1, rs2, rs3, rm, imm, csr⟩) 27))
  go_enter Try.func26, Try.ntmps26
  go_wp2_with (first
    | (go_at_call 27; (with_reducible refine (CM.out _).mono ?_); rintro e w0 ⟨rfl, b0⟩; clear CM)
    | (refine wpList_load_blk rfl _ _ rfl _ rfl _ _ _ K0.out Try.underlying27 rfl (by kernel_rfl) ?_))
  go_ret2
  exact ⟨rfl, below_call B0.out b0⟩
theorem renc_c (W : World) (x : I11) : Calls Try.prog 26 #[.agg (instV x)] W fun e w' => e = .returned (.tuple #[.int .u32 (encV x : Nat), .int .i64 (encE x)]) ∧ Below W.heap.size W w' := by
  unfold encV encE
  cases hM : MAY x with
  | false => rw [if_neg (by decide), if_neg (by decide)]; exact renc_no W x hM
  | true =>
    rw [if_pos rfl, if_pos rfl]
    obtain ⟨r, hr, ho, _, _, _, _, M, hw⟩ := may_row hM
    have hlt := (dec_word hM).1
    rw [hw] at hlt ⊢
    have hl := lay_rows r hr
    obtain ⟨op, form, frm, kind, rd, rs1, rs2, rs3, rm, imm, csr⟩ := x
    obtain ⟨rop, rform, rfrm, rkind, rmask, rmtch, lay⟩ := r
    simp only [] at hl M hlt ho ⊢
    rcases hl with rfl | rfl | rfl | rfl | rfl | rfl | rfl | rfl | rfl
    · exact renc_1 W op form frm kind rd rs1 rs2 rs3 rm imm csr rop rform rfrm rkind rmask rmtch hM ho M _ rfl hlt
    · exact renc_2 W op form frm kind rd rs1 rs2 rs3 rm imm csr rop rform rfrm rkind rmask rmtch hM ho M _ rfl hlt
    · exact renc_3 W op form frm kind rd rs1 rs2 rs3 rm imm csr rop rform rfrm rkind rmask rmtch hM ho M _ rfl hlt
    · exact renc_4 W op form frm kind rd rs1 rs2 rs3 rm imm csr rop rform rfrm rkind rmask rmtch hM ho M _ rfl hlt
    · exact renc_5 W op form frm kind rd rs1 rs2 rs3 rm imm csr rop rform rfrm rkind rmask rmtch hM ho M _ rfl hlt
    · exact renc_6 W op form frm kind rd rs1 rs2 rs3 rm imm csr rop rform rfrm rkind rmask rmtch hM ho M _ rfl hlt
    · exact renc_7 W op form frm kind rd rs1 rs2 rs3 rm imm csr rop rform rfrm rkind rmask rmtch hM ho M _ rfl hlt
    · exact renc_8 W op form frm kind rd rs1 rs2 rs3 rm imm csr rop rform rfrm rkind rmask rmtch hM ho M _ rfl hlt
    · exact renc_9 W op form frm kind rd rs1 rs2 rs3 rm imm csr rop rform rfrm rkind rmask rmtch hM ho M _ rfl hlt
end Go.Proofs.Yteelconabmfnkaa
