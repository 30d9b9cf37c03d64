/- abacusref25.Uses. -/
import Derived.Test.YtaddmgclnbkdgaaPda
import Derived.Test.YtaddmgclnbkdgaaKt
namespace Go.Proofs.Ytaddmgclnbkdgaa
open Go Go.RowKit
set_option maxHeartbeats 4000000
set_option maxRecDepth 100000
set_option linter.unusedVariables false
set_option linter.unusedSimpArgs false
theorem pow_wrap {n p : Nat} (hn : n < 32) (hp : 2 ^ n = p) : (2 : Int) ^ n % 4294967296 = ((p : Nat) : Int) := by
  have h1 := pow_lt32 hn hp
  have h2 : ((2 : Int) ^ n) = ((p : Nat) : Int) := by rw [← hp]; simp
  rw [h2]; omega
theorem ruses_A (W : World) (op form frm kind rd rs1 rs2 rs3 rm : Nat) (imm : Int) (csr : Nat) (hop : op = 1) (h1 : rd < 32) (h2 : rs1 < 32) (h3 : rs2 < 32) (h4 : rs3 < 32) :
    Calls Try.prog 45 #[.agg (instV ⟨op, form, frm, kind, rd, rs1, rs2, rs3, rm, imm, csr⟩)] W fun e w' => e = .returned (.agg (useV (USE ⟨op, form, frm, kind, rd, rs1, rs2, rs3, rm, imm, csr⟩))) ∧ Below W.heap.size W w' := by
  obtain ⟨a, ha⟩ : ∃ p, 2 ^ rd = p := ⟨_, rfl⟩
  have ea := pow_wrap h1 ha
  have la := pow_lt32 h1 ha
  obtain ⟨b, hb⟩ : ∃ p, 2 ^ rs1 = p := ⟨_, rfl⟩
  have eb := pow_wrap h2 hb
  have lb := pow_lt32 h2 hb
  obtain ⟨c, hc⟩ : ∃ p, 2 ^ rs2 = p := ⟨_, rfl⟩
  have ec := pow_wrap h3 hc
  have lc := pow_lt32 h3 hc
  obtain ⟨d, hd⟩ : ∃ p, 2 ^ rs3 = p := ⟨_, rfl⟩
  have ed := pow_wrap h4 hd
  have ld := pow_lt32 h4 hd
  have HU4 : Hid (USE ⟨op, form, frm, kind, rd, rs1, rs2, rs3, rm, imm, csr⟩ = ⟨b, 0, 0, a⟩) := Lib.hid (by
    unfold USE
    subst hop
    all_goals (simp only []; first | (rw [ha, hb]; first | rfl | (simp; done)) | (simp [ha, hb, hc, hd]; done)))
  have hz : ((op : Int) == 1) = true := by subst hop; rfl
  skip
  clear hop
  all_goals
    clear ha hb hc hd
    have kI := (Blk.new W (instV ⟨op, form, frm, kind, rd, rs1, rs2, rs3, rm, imm, csr⟩) 27).alloc (.cells (useV zeroU) 68)
    have kU := Blk.new (W.alloc (.cells (instV ⟨op, form, frm, kind, rd, rs1, rs2, rs3, rm, imm, csr⟩) 27)) (useV zeroU) 68
    have kB := ((Below.refl W.heap.size W).alloc (Nat.le_refl _) (.cells (instV ⟨op, form, frm, kind, rd, rs1, rs2, rs3, rm, imm, csr⟩) 27)).alloc (by simp) (.cells (useV zeroU) 68)
    rw [World.size_alloc] at kU
    obtain ⟨A, hA⟩ : ∃ A, (W.alloc (.cells (instV ⟨op, form, frm, kind, rd, rs1, rs2, rs3, rm, imm, csr⟩) 27)).alloc (.cells (useV zeroU) 68) = A := ⟨_, rfl⟩
    rw [hA] at kI kU kB
    have c0 : A.cell? ⟨W.heap.size, 0, none⟩ = some (.int .u8 (op : Nat)) := kI.cell 0
    have c4 : A.cell? ⟨W.heap.size, 4, none⟩ = some (.int .u8 (rd : Nat)) := kI.cell 4
    have c5 : A.cell? ⟨W.heap.size, 5, none⟩ = some (.int .u8 (rs1 : Nat)) := kI.cell 5
    have c6 : A.cell? ⟨W.heap.size, 6, none⟩ = some (.int .u8 (rs2 : Nat)) := kI.cell 6
    have c7 : A.cell? ⟨W.heap.size, 7, none⟩ = some (.int .u8 (rs3 : Nat)) := kI.cell 7
    have HA := Lib.hid hA
    have KU := Lib.hid kU
    have KB := Lib.hid kB
    clear hA kI kU kB
    go_enter Try.func45, Try.ntmps45
    go_wp2
    show Code.wp _ _ _ _ ((W.alloc (.cells (instV ⟨op, form, frm, kind, rd, rs1, rs2, rs3, rm, imm, csr⟩) 27)).alloc (.cells (useV zeroU) 68))
    rw [HA.out]
    clear HA
    refine wp_region_sets_lit (fun _ w' => ∃ q, w' = A.drewN q) (by kernel_rfl) (by kernel_rfl) ⟨1, rfl⟩ ?_
    (repeat (first | (refine sets_quiet (fun w' => ∃ q, w' = A.drewN q) (fun _ _ h => h) rfl (fun _ _ _ h => h) rfl ?_; intro K hK; go_big_quiet_op; first | go_big_quiet_on | (refine ⟨_, fun _ => rfl, ?_⟩; go_big_quiet_on)) | (refine sets_nil rfl (fun _ _ _ h => h) _ rfl _ rfl ?_; simp only [Act.put, List.setIfInBounds_toArray, List.set_cons_succ, List.set_cons_zero]) | (refine sets_skip rfl (fun _ _ _ h => h) ?_; simp only [Act.put, List.setIfInBounds_toArray, List.set_cons_succ, List.set_cons_zero])))
    rintro S _ _ ⟨q2, rfl⟩
    have ku := KU.out.drewN q2
    go_wp2_with (first
      | (refine wpList_store_blk rfl _ _ _ rfl _ _ rfl rfl _ _ ku (by kernel_rfl) rfl (by simp [Value.oneCell']) ?_))
    rw [HU4.out]
    exact bodyPost_ret (results_cell rfl _ _ (W.heap.size + 1) _ _ _ rfl (ku.row _) Try.underlying68 rfl (by kernel_rfl)) rfl ⟨rfl, below_setRow (below_drewN KB.out) (by omega) _⟩
theorem ruses_B (W : World) (op form frm kind rd rs1 rs2 rs3 rm : Nat) (imm : Int) (csr : Nat) (hop : op = 2) (h1 : rd < 32) (h2 : rs1 < 32) (h3 : rs2 < 32) (h4 : rs3 < 32) :
    Calls Try.prog 45 #[.agg (instV ⟨op, form, frm, kind, rd, rs1, rs2, rs3, rm, imm, csr⟩)] W fun e w' => e = .returned (.agg (useV (USE ⟨op, form, frm, kind, rd, rs1, rs2, rs3, rm, imm, csr⟩))) ∧ Below W.heap.size W w' := by
  obtain ⟨a, ha⟩ : ∃ p, 2 ^ rd = p := ⟨_, rfl⟩
  have ea := pow_wrap h1 ha
  have la := pow_lt32 h1 ha
  obtain ⟨b, hb⟩ : ∃ p, 2 ^ rs1 = p := ⟨_, rfl⟩
  have eb := pow_wrap h2 hb
  have lb := pow_lt32 h2 hb
  obtain ⟨c, hc⟩ : ∃ p, 2 ^ rs2 = p := ⟨_, rfl⟩
  have ec := pow_wrap h3 hc
  have lc := pow_lt32 h3 hc
  obtain ⟨d, hd⟩ : ∃ p, 2 ^ rs3 = p := ⟨_, rfl⟩
  have ed := pow_wrap h4 hd
  have ld := pow_lt32 h4 hd
  have HU4 : Hid (USE ⟨op, form, frm, kind, rd, rs1, rs2, rs3, rm, imm, csr⟩ = ⟨b, c, 0, 0⟩) := Lib.hid (by
    unfold USE
    subst hop
    all_goals (simp only []; first | (rw [hb, hc]; first | rfl | (simp; done)) | (simp [ha, hb, hc, hd]; done)))
  have z1 : ((op : Int) == 1) = false := by rw [beq_eq_false_iff_ne]; omega
  have hz : ((op : Int) == 2) = true := by subst hop; rfl
  skip
  clear hop
  all_goals
    clear ha hb hc hd
    have kI := (Blk.new W (instV ⟨op, form, frm, kind, rd, rs1, rs2, rs3, rm, imm, csr⟩) 27).alloc (.cells (useV zeroU) 68)
    have kU := Blk.new (W.alloc (.cells (instV ⟨op, form, frm, kind, rd, rs1, rs2, rs3, rm, imm, csr⟩) 27)) (useV zeroU) 68
    have kB := ((Below.refl W.heap.size W).alloc (Nat.le_refl _) (.cells (instV ⟨op, form, frm, kind, rd, rs1, rs2, rs3, rm, imm, csr⟩) 27)).alloc (by simp) (.cells (useV zeroU) 68)
    rw [World.size_alloc] at kU
    obtain ⟨A, hA⟩ : ∃ A, (W.alloc (.cells (instV ⟨op, form, frm, kind, rd, rs1, rs2, rs3, rm, imm, csr⟩) 27)).alloc (.cells (useV zeroU) 68) = A := ⟨_, rfl⟩
    rw [hA] at kI kU kB
    have c0 : A.cell? ⟨W.heap.size, 0, none⟩ = some (.int .u8 (op : Nat)) := kI.cell 0
    have c4 : A.cell? ⟨W.heap.size, 4, none⟩ = some (.int .u8 (rd : Nat)) := kI.cell 4
    have c5 : A.cell? ⟨W.heap.size, 5, none⟩ = some (.int .u8 (rs1 : Nat)) := kI.cell 5
    have c6 : A.cell? ⟨W.heap.size, 6, none⟩ = some (.int .u8 (rs2 : Nat)) := kI.cell 6
    have c7 : A.cell? ⟨W.heap.size, 7, none⟩ = some (.int .u8 (rs3 : Nat)) := kI.cell 7
    have HA := Lib.hid hA
    have KU := Lib.hid kU
    have KB := Lib.hid kB
    clear hA kI kU kB
    go_enter Try.func45, Try.ntmps45
    go_wp2
    show Code.wp _ _ _ _ ((W.alloc (.cells (instV ⟨op, form, frm, kind, rd, rs1, rs2, rs3, rm, imm, csr⟩) 27)).alloc (.cells (useV zeroU) 68))
    rw [HA.out]
    clear HA
    refine wp_region_sets_lit (fun _ w' => ∃ q, w' = A.drewN q) (by kernel_rfl) (by kernel_rfl) ⟨1, rfl⟩ ?_
    (repeat (first | (refine sets_quiet (fun w' => ∃ q, w' = A.drewN q) (fun _ _ h => h) rfl (fun _ _ _ h => h) rfl ?_; intro K hK; go_big_quiet_op; first | go_big_quiet_on | (refine ⟨_, fun _ => rfl, ?_⟩; go_big_quiet_on)) | (refine sets_nil rfl (fun _ _ _ h => h) _ rfl _ rfl ?_; simp only [Act.put, List.setIfInBounds_toArray, List.set_cons_succ, List.set_cons_zero]) | (refine sets_skip rfl (fun _ _ _ h => h) ?_; simp only [Act.put, List.setIfInBounds_toArray, List.set_cons_succ, List.set_cons_zero])))
    rintro S _ _ ⟨q2, rfl⟩
    have ku := KU.out.drewN q2
    go_wp2_with (first
      | (refine wpList_store_blk rfl _ _ _ rfl _ _ rfl rfl _ _ ku (by kernel_rfl) rfl (by simp [Value.oneCell']) ?_))
    rw [HU4.out]
    exact bodyPost_ret (results_cell rfl _ _ (W.heap.size + 1) _ _ _ rfl (ku.row _) Try.underlying68 rfl (by kernel_rfl)) rfl ⟨rfl, below_setRow (below_drewN KB.out) (by omega) _⟩
theorem ruses_H (W : World) (op form frm kind rd rs1 rs2 rs3 rm : Nat) (imm : Int) (csr : Nat) (hop : op = 3 ∨ op = 4 ∨ op = 5 ∨ op = 6) (h1 : rd < 32) (h2 : rs1 < 32) (h3 : rs2 < 32) (h4 : rs3 < 32) :
    Calls Try.prog 45 #[.agg (instV ⟨op, form, frm, kind, rd, rs1, rs2, rs3, rm, imm, csr⟩)] W fun e w' => e = .returned (.agg (useV (USE ⟨op, form, frm, kind, rd, rs1, rs2, rs3, rm, imm, csr⟩))) ∧ Below W.heap.size W w' := by
  obtain ⟨a, ha⟩ : ∃ p, 2 ^ rd = p := ⟨_, rfl⟩
  have ea := pow_wrap h1 ha
  have la := pow_lt32 h1 ha
  obtain ⟨b, hb⟩ : ∃ p, 2 ^ rs1 = p := ⟨_, rfl⟩
  have eb := pow_wrap h2 hb
  have lb := pow_lt32 h2 hb
  obtain ⟨c, hc⟩ : ∃ p, 2 ^ rs2 = p := ⟨_, rfl⟩
  have ec := pow_wrap h3 hc
  have lc := pow_lt32 h3 hc
  obtain ⟨d, hd⟩ : ∃ p, 2 ^ rs3 = p := ⟨_, rfl⟩
  have ed := pow_wrap h4 hd
  have ld := pow_lt32 h4 hd
  obtain ⟨bc, hbc⟩ : ∃ p, b ||| c = p := ⟨_, rfl⟩
  have ebc : bits .or .u32 (b : Int) (c : Int) = ((bc : Nat) : Int) := by rw [← hbc]; exact or32 b c lb lc
  have lbc : bc < 4294967296 := by rw [← hbc]; exact or_lt32 lb lc
  obtain ⟨bcd, hbcd⟩ : ∃ p, bc ||| d = p := ⟨_, rfl⟩
  have ebcd : bits .or .u32 (bc : Int) (d : Int) = ((bcd : Nat) : Int) := by rw [← hbcd]; exact or32 bc d lbc ld
  have HU4 : Hid (USE ⟨op, form, frm, kind, rd, rs1, rs2, rs3, rm, imm, csr⟩ = ⟨0, bcd, 0, a⟩) := Lib.hid (by
    unfold USE
    rcases hop with rfl | rfl | rfl | rfl
    all_goals (simp only []; first | (rw [ha, hb, hc, hd, hbc, hbcd]; first | rfl | (simp; done)) | (simp [ha, hb, hc, hd]; done)))
  have z1 : ((op : Int) == 1) = false := by rw [beq_eq_false_iff_ne]; omega
  have z2 : ((op : Int) == 2) = false := by rw [beq_eq_false_iff_ne]; omega
  have hz : (((op : Int) == 3) = true) ∨ (((op : Int) == 3) = false ∧ ((op : Int) == 4) = true) ∨ (((op : Int) == 3) = false ∧ ((op : Int) == 4) = false ∧ ((op : Int) == 5) = true) ∨ (((op : Int) == 3) = false ∧ ((op : Int) == 4) = false ∧ ((op : Int) == 5) = false ∧ ((op : Int) == 6) = true) := by rcases hop with rfl | rfl | rfl | rfl <;> simp
  rcases hz with y3 | ⟨y3, y4⟩ | ⟨y3, y4, y5⟩ | ⟨y3, y4, y5, y6⟩
  clear hop
  all_goals
    clear ha hb hc hd hbc hbcd
    have kI := (Blk.new W (instV ⟨op, form, frm, kind, rd, rs1, rs2, rs3, rm, imm, csr⟩) 27).alloc (.cells (useV zeroU) 68)
    have kU := Blk.new (W.alloc (.cells (instV ⟨op, form, frm, kind, rd, rs1, rs2, rs3, rm, imm, csr⟩) 27)) (useV zeroU) 68
    have kB := ((Below.refl W.heap.size W).alloc (Nat.le_refl _) (.cells (instV ⟨op, form, frm, kind, rd, rs1, rs2, rs3, rm, imm, csr⟩) 27)).alloc (by simp) (.cells (useV zeroU) 68)
    rw [World.size_alloc] at kU
    obtain ⟨A, hA⟩ : ∃ A, (W.alloc (.cells (instV ⟨op, form, frm, kind, rd, rs1, rs2, rs3, rm, imm, csr⟩) 27)).alloc (.cells (useV zeroU) 68) = A := ⟨_, rfl⟩
    rw [hA] at kI kU kB
    have c0 : A.cell? ⟨W.heap.size, 0, none⟩ = some (.int .u8 (op : Nat)) := kI.cell 0
    have c4 : A.cell? ⟨W.heap.size, 4, none⟩ = some (.int .u8 (rd : Nat)) := kI.cell 4
    have c5 : A.cell? ⟨W.heap.size, 5, none⟩ = some (.int .u8 (rs1 : Nat)) := kI.cell 5
    have c6 : A.cell? ⟨W.heap.size, 6, none⟩ = some (.int .u8 (rs2 : Nat)) := kI.cell 6
    have c7 : A.cell? ⟨W.heap.size, 7, none⟩ = some (.int .u8 (rs3 : Nat)) := kI.cell 7
    have HA := Lib.hid hA
    have KU := Lib.hid kU
    have KB := Lib.hid kB
    clear hA kI kU kB
    go_enter Try.func45, Try.ntmps45
    go_wp2
    show Code.wp _ _ _ _ ((W.alloc (.cells (instV ⟨op, form, frm, kind, rd, rs1, rs2, rs3, rm, imm, csr⟩) 27)).alloc (.cells (useV zeroU) 68))
    rw [HA.out]
    clear HA
    refine wp_region_sets_lit (fun _ w' => ∃ q, w' = A.drewN q) (by kernel_rfl) (by kernel_rfl) ⟨1, rfl⟩ ?_
    (repeat (first | (refine sets_quiet (fun w' => ∃ q, w' = A.drewN q) (fun _ _ h => h) rfl (fun _ _ _ h => h) rfl ?_; intro K hK; go_big_quiet_op; first | go_big_quiet_on | (refine ⟨_, fun _ => rfl, ?_⟩; go_big_quiet_on)) | (refine sets_nil rfl (fun _ _ _ h => h) _ rfl _ rfl ?_; simp only [Act.put, List.setIfInBounds_toArray, List.set_cons_succ, List.set_cons_zero]) | (refine sets_skip rfl (fun _ _ _ h => h) ?_; simp only [Act.put, List.setIfInBounds_toArray, List.set_cons_succ, List.set_cons_zero])))
    rintro S _ _ ⟨q2, rfl⟩
    have ku := KU.out.drewN q2
    go_wp2_with (first
      | (refine wpList_store_blk rfl _ _ _ rfl _ _ rfl rfl _ _ ku (by kernel_rfl) rfl (by simp [Value.oneCell']) ?_))
    rw [HU4.out]
    exact bodyPost_ret (results_cell rfl _ _ (W.heap.size + 1) _ _ _ rfl (ku.row _) Try.underlying68 rfl (by kernel_rfl)) rfl ⟨rfl, below_setRow (below_drewN KB.out) (by omega) _⟩
theorem ruses_G (W : World) (op form frm kind rd rs1 rs2 rs3 rm : Nat) (imm : Int) (csr : Nat) (hop : op = 11 ∨ op = 17) (h1 : rd < 32) (h2 : rs1 < 32) (h3 : rs2 < 32) (h4 : rs3 < 32) :
    Calls Try.prog 45 #[.agg (instV ⟨op, form, frm, kind, rd, rs1, rs2, rs3, rm, imm, csr⟩)] W fun e w' => e = .returned (.agg (useV (USE ⟨op, form, frm, kind, rd, rs1, rs2, rs3, rm, imm, csr⟩))) ∧ Below W.heap.size W w' := by
  obtain ⟨a, ha⟩ : ∃ p, 2 ^ rd = p := ⟨_, rfl⟩
  have ea := pow_wrap h1 ha
  have la := pow_lt32 h1 ha
  obtain ⟨b, hb⟩ : ∃ p, 2 ^ rs1 = p := ⟨_, rfl⟩
  have eb := pow_wrap h2 hb
  have lb := pow_lt32 h2 hb
  obtain ⟨c, hc⟩ : ∃ p, 2 ^ rs2 = p := ⟨_, rfl⟩
  have ec := pow_wrap h3 hc
  have lc := pow_lt32 h3 hc
  obtain ⟨d, hd⟩ : ∃ p, 2 ^ rs3 = p := ⟨_, rfl⟩
  have ed := pow_wrap h4 hd
  have ld := pow_lt32 h4 hd
  have HU4 : Hid (USE ⟨op, form, frm, kind, rd, rs1, rs2, rs3, rm, imm, csr⟩ = ⟨0, b, 0, a⟩) := Lib.hid (by
    unfold USE
    rcases hop with rfl | rfl
    all_goals (simp only []; first | (rw [ha, hb]; first | rfl | (simp; done)) | (simp [ha, hb, hc, hd]; done)))
  have z1 : ((op : Int) == 1) = false := by rw [beq_eq_false_iff_ne]; omega
  have z2 : ((op : Int) == 2) = false := by rw [beq_eq_false_iff_ne]; omega
  have z3 : ((op : Int) == 3) = false := by rw [beq_eq_false_iff_ne]; omega
  have z4 : ((op : Int) == 4) = false := by rw [beq_eq_false_iff_ne]; omega
  have z5 : ((op : Int) == 5) = false := by rw [beq_eq_false_iff_ne]; omega
  have z6 : ((op : Int) == 6) = false := by rw [beq_eq_false_iff_ne]; omega
  have hz : (((op : Int) == 11) = true) ∨ (((op : Int) == 11) = false ∧ ((op : Int) == 17) = true) := by rcases hop with rfl | rfl <;> simp
  rcases hz with y11 | ⟨y11, y17⟩
  clear hop
  all_goals
    clear ha hb hc hd
    have kI := (Blk.new W (instV ⟨op, form, frm, kind, rd, rs1, rs2, rs3, rm, imm, csr⟩) 27).alloc (.cells (useV zeroU) 68)
    have kU := Blk.new (W.alloc (.cells (instV ⟨op, form, frm, kind, rd, rs1, rs2, rs3, rm, imm, csr⟩) 27)) (useV zeroU) 68
    have kB := ((Below.refl W.heap.size W).alloc (Nat.le_refl _) (.cells (instV ⟨op, form, frm, kind, rd, rs1, rs2, rs3, rm, imm, csr⟩) 27)).alloc (by simp) (.cells (useV zeroU) 68)
    rw [World.size_alloc] at kU
    obtain ⟨A, hA⟩ : ∃ A, (W.alloc (.cells (instV ⟨op, form, frm, kind, rd, rs1, rs2, rs3, rm, imm, csr⟩) 27)).alloc (.cells (useV zeroU) 68) = A := ⟨_, rfl⟩
    rw [hA] at kI kU kB
    have c0 : A.cell? ⟨W.heap.size, 0, none⟩ = some (.int .u8 (op : Nat)) := kI.cell 0
    have c4 : A.cell? ⟨W.heap.size, 4, none⟩ = some (.int .u8 (rd : Nat)) := kI.cell 4
    have c5 : A.cell? ⟨W.heap.size, 5, none⟩ = some (.int .u8 (rs1 : Nat)) := kI.cell 5
    have c6 : A.cell? ⟨W.heap.size, 6, none⟩ = some (.int .u8 (rs2 : Nat)) := kI.cell 6
    have c7 : A.cell? ⟨W.heap.size, 7, none⟩ = some (.int .u8 (rs3 : Nat)) := kI.cell 7
    have HA := Lib.hid hA
    have KU := Lib.hid kU
    have KB := Lib.hid kB
    clear hA kI kU kB
    go_enter Try.func45, Try.ntmps45
    go_wp2
    show Code.wp _ _ _ _ ((W.alloc (.cells (instV ⟨op, form, frm, kind, rd, rs1, rs2, rs3, rm, imm, csr⟩) 27)).alloc (.cells (useV zeroU) 68))
    rw [HA.out]
    clear HA
    refine wp_region_sets_lit (fun _ w' => ∃ q, w' = A.drewN q) (by kernel_rfl) (by kernel_rfl) ⟨1, rfl⟩ ?_
    (repeat (first | (refine sets_quiet (fun w' => ∃ q, w' = A.drewN q) (fun _ _ h => h) rfl (fun _ _ _ h => h) rfl ?_; intro K hK; go_big_quiet_op; first | go_big_quiet_on | (refine ⟨_, fun _ => rfl, ?_⟩; go_big_quiet_on)) | (refine sets_nil rfl (fun _ _ _ h => h) _ rfl _ rfl ?_; simp only [Act.put, List.setIfInBounds_toArray, List.set_cons_succ, List.set_cons_zero]) | (refine sets_skip rfl (fun _ _ _ h => h) ?_; simp only [Act.put, List.setIfInBounds_toArray, List.set_cons_succ, List.set_cons_zero])))
    rintro S _ _ ⟨q2, rfl⟩
    have ku := KU.out.drewN q2
    go_wp2_with (first
      | (refine wpList_store_blk rfl _ _ _ rfl _ _ rfl rfl _ _ ku (by kernel_rfl) rfl (by simp [Value.oneCell']) ?_))
    rw [HU4.out]
    exact bodyPost_ret (results_cell rfl _ _ (W.heap.size + 1) _ _ _ rfl (ku.row _) Try.underlying68 rfl (by kernel_rfl)) rfl ⟨rfl, below_setRow (below_drewN KB.out) (by omega) _⟩
theorem ruses_F (W : World) (op form frm kind rd rs1 rs2 rs3 rm : Nat) (imm : Int) (csr : Nat) (hop : op = 18 ∨ op = 19 ∨ op = 20) (h1 : rd < 32) (h2 : rs1 < 32) (h3 : rs2 < 32) (h4 : rs3 < 32) :
    Calls Try.prog 45 #[.agg (instV ⟨op, form, frm, kind, rd, rs1, rs2, rs3, rm, imm, csr⟩)] W fun e w' => e = .returned (.agg (useV (USE ⟨op, form, frm, kind, rd, rs1, rs2, rs3, rm, imm, csr⟩))) ∧ Below W.heap.size W w' := by
  obtain ⟨a, ha⟩ : ∃ p, 2 ^ rd = p := ⟨_, rfl⟩
  have ea := pow_wrap h1 ha
  have la := pow_lt32 h1 ha
  obtain ⟨b, hb⟩ : ∃ p, 2 ^ rs1 = p := ⟨_, rfl⟩
  have eb := pow_wrap h2 hb
  have lb := pow_lt32 h2 hb
  obtain ⟨c, hc⟩ : ∃ p, 2 ^ rs2 = p := ⟨_, rfl⟩
  have ec := pow_wrap h3 hc
  have lc := pow_lt32 h3 hc
  obtain ⟨d, hd⟩ : ∃ p, 2 ^ rs3 = p := ⟨_, rfl⟩
  have ed := pow_wrap h4 hd
  have ld := pow_lt32 h4 hd
  obtain ⟨bc, hbc⟩ : ∃ p, b ||| c = p := ⟨_, rfl⟩
  have ebc : bits .or .u32 (b : Int) (c : Int) = ((bc : Nat) : Int) := by rw [← hbc]; exact or32 b c lb lc
  have HU4 : Hid (USE ⟨op, form, frm, kind, rd, rs1, rs2, rs3, rm, imm, csr⟩ = ⟨0, bc, a, 0⟩) := Lib.hid (by
    unfold USE
    rcases hop with rfl | rfl | rfl
    all_goals (simp only []; first | (rw [ha, hb, hc, hbc]; first | rfl | (simp; done)) | (simp [ha, hb, hc, hd]; done)))
  have z1 : ((op : Int) == 1) = false := by rw [beq_eq_false_iff_ne]; omega
  have z2 : ((op : Int) == 2) = false := by rw [beq_eq_false_iff_ne]; omega
  have z3 : ((op : Int) == 3) = false := by rw [beq_eq_false_iff_ne]; omega
  have z4 : ((op : Int) == 4) = false := by rw [beq_eq_false_iff_ne]; omega
  have z5 : ((op : Int) == 5) = false := by rw [beq_eq_false_iff_ne]; omega
  have z6 : ((op : Int) == 6) = false := by rw [beq_eq_false_iff_ne]; omega
  have z11 : ((op : Int) == 11) = false := by rw [beq_eq_false_iff_ne]; omega
  have z17 : ((op : Int) == 17) = false := by rw [beq_eq_false_iff_ne]; omega
  have hz : (((op : Int) == 18) = true) ∨ (((op : Int) == 18) = false ∧ ((op : Int) == 19) = true) ∨ (((op : Int) == 18) = false ∧ ((op : Int) == 19) = false ∧ ((op : Int) == 20) = true) := by rcases hop with rfl | rfl | rfl <;> simp
  rcases hz with y18 | ⟨y18, y19⟩ | ⟨y18, y19, y20⟩
  clear hop
  all_goals
    clear ha hb hc hd hbc
    have kI := (Blk.new W (instV ⟨op, form, frm, kind, rd, rs1, rs2, rs3, rm, imm, csr⟩) 27).alloc (.cells (useV zeroU) 68)
    have kU := Blk.new (W.alloc (.cells (instV ⟨op, form, frm, kind, rd, rs1, rs2, rs3, rm, imm, csr⟩) 27)) (useV zeroU) 68
    have kB := ((Below.refl W.heap.size W).alloc (Nat.le_refl _) (.cells (instV ⟨op, form, frm, kind, rd, rs1, rs2, rs3, rm, imm, csr⟩) 27)).alloc (by simp) (.cells (useV zeroU) 68)
    rw [World.size_alloc] at kU
    obtain ⟨A, hA⟩ : ∃ A, (W.alloc (.cells (instV ⟨op, form, frm, kind, rd, rs1, rs2, rs3, rm, imm, csr⟩) 27)).alloc (.cells (useV zeroU) 68) = A := ⟨_, rfl⟩
    rw [hA] at kI kU kB
    have c0 : A.cell? ⟨W.heap.size, 0, none⟩ = some (.int .u8 (op : Nat)) := kI.cell 0
    have c4 : A.cell? ⟨W.heap.size, 4, none⟩ = some (.int .u8 (rd : Nat)) := kI.cell 4
    have c5 : A.cell? ⟨W.heap.size, 5, none⟩ = some (.int .u8 (rs1 : Nat)) := kI.cell 5
    have c6 : A.cell? ⟨W.heap.size, 6, none⟩ = some (.int .u8 (rs2 : Nat)) := kI.cell 6
    have c7 : A.cell? ⟨W.heap.size, 7, none⟩ = some (.int .u8 (rs3 : Nat)) := kI.cell 7
    have HA := Lib.hid hA
    have KU := Lib.hid kU
    have KB := Lib.hid kB
    clear hA kI kU kB
    go_enter Try.func45, Try.ntmps45
    go_wp2
    show Code.wp _ _ _ _ ((W.alloc (.cells (instV ⟨op, form, frm, kind, rd, rs1, rs2, rs3, rm, imm, csr⟩) 27)).alloc (.cells (useV zeroU) 68))
    rw [HA.out]
    clear HA
    refine wp_region_sets_lit (fun _ w' => ∃ q, w' = A.drewN q) (by kernel_rfl) (by kernel_rfl) ⟨1, rfl⟩ ?_
    (repeat (first | (refine sets_quiet (fun w' => ∃ q, w' = A.drewN q) (fun _ _ h => h) rfl (fun _ _ _ h => h) rfl ?_; intro K hK; go_big_quiet_op; first | go_big_quiet_on | (refine ⟨_, fun _ => rfl, ?_⟩; go_big_quiet_on)) | (refine sets_nil rfl (fun _ _ _ h => h) _ rfl _ rfl ?_; simp only [Act.put, List.setIfInBounds_toArray, List.set_cons_succ, List.set_cons_zero]) | (refine sets_skip rfl (fun _ _ _ h => h) ?_; simp only [Act.put, List.setIfInBounds_toArray, List.set_cons_succ, List.set_cons_zero])))
    rintro S _ _ ⟨q2, rfl⟩
    have ku := KU.out.drewN q2
    go_wp2_with (first
      | (refine wpList_store_blk rfl _ _ _ rfl _ _ rfl rfl _ _ ku (by kernel_rfl) rfl (by simp [Value.oneCell']) ?_))
    rw [HU4.out]
    exact bodyPost_ret (results_cell rfl _ _ (W.heap.size + 1) _ _ _ rfl (ku.row _) Try.underlying68 rfl (by kernel_rfl)) rfl ⟨rfl, below_setRow (below_drewN KB.out) (by omega) _⟩
theorem ruses_E (W : World) (op form frm kind rd rs1 rs2 rs3 rm : Nat) (imm : Int) (csr : Nat) (hop : op = 21 ∨ op = 23 ∨ op = 24) (h1 : rd < 32) (h2 : rs1 < 32) (h3 : rs2 < 32) (h4 : rs3 < 32) :
    Calls Try.prog 45 #[.agg (instV ⟨op, form, frm, kind, rd, rs1, rs2, rs3, rm, imm, csr⟩)] W fun e w' => e = .returned (.agg (useV (USE ⟨op, form, frm, kind, rd, rs1, rs2, rs3, rm, imm, csr⟩))) ∧ Below W.heap.size W w' := by
  obtain ⟨a, ha⟩ : ∃ p, 2 ^ rd = p := ⟨_, rfl⟩
  have ea := pow_wrap h1 ha
  have la := pow_lt32 h1 ha
  obtain ⟨b, hb⟩ : ∃ p, 2 ^ rs1 = p := ⟨_, rfl⟩
  have eb := pow_wrap h2 hb
  have lb := pow_lt32 h2 hb
  obtain ⟨c, hc⟩ : ∃ p, 2 ^ rs2 = p := ⟨_, rfl⟩
  have ec := pow_wrap h3 hc
  have lc := pow_lt32 h3 hc
  obtain ⟨d, hd⟩ : ∃ p, 2 ^ rs3 = p := ⟨_, rfl⟩
  have ed := pow_wrap h4 hd
  have ld := pow_lt32 h4 hd
  have HU4 : Hid (USE ⟨op, form, frm, kind, rd, rs1, rs2, rs3, rm, imm, csr⟩ = ⟨0, b, a, 0⟩) := Lib.hid (by
    unfold USE
    rcases hop with rfl | rfl | rfl
    all_goals (simp only []; first | (rw [ha, hb]; first | rfl | (simp; done)) | (simp [ha, hb, hc, hd]; done)))
  have z1 : ((op : Int) == 1) = false := by rw [beq_eq_false_iff_ne]; omega
  have z2 : ((op : Int) == 2) = false := by rw [beq_eq_false_iff_ne]; omega
  have z3 : ((op : Int) == 3) = false := by rw [beq_eq_false_iff_ne]; omega
  have z4 : ((op : Int) == 4) = false := by rw [beq_eq_false_iff_ne]; omega
  have z5 : ((op : Int) == 5) = false := by rw [beq_eq_false_iff_ne]; omega
  have z6 : ((op : Int) == 6) = false := by rw [beq_eq_false_iff_ne]; omega
  have z11 : ((op : Int) == 11) = false := by rw [beq_eq_false_iff_ne]; omega
  have z17 : ((op : Int) == 17) = false := by rw [beq_eq_false_iff_ne]; omega
  have z18 : ((op : Int) == 18) = false := by rw [beq_eq_false_iff_ne]; omega
  have z19 : ((op : Int) == 19) = false := by rw [beq_eq_false_iff_ne]; omega
  have z20 : ((op : Int) == 20) = false := by rw [beq_eq_false_iff_ne]; omega
  have hz : (((op : Int) == 21) = true) ∨ (((op : Int) == 21) = false ∧ ((op : Int) == 23) = true) ∨ (((op : Int) == 21) = false ∧ ((op : Int) == 23) = false ∧ ((op : Int) == 24) = true) := by rcases hop with rfl | rfl | rfl <;> simp
  rcases hz with y21 | ⟨y21, y23⟩ | ⟨y21, y23, y24⟩
  clear hop
  all_goals
    clear ha hb hc hd
    have kI := (Blk.new W (instV ⟨op, form, frm, kind, rd, rs1, rs2, rs3, rm, imm, csr⟩) 27).alloc (.cells (useV zeroU) 68)
    have kU := Blk.new (W.alloc (.cells (instV ⟨op, form, frm, kind, rd, rs1, rs2, rs3, rm, imm, csr⟩) 27)) (useV zeroU) 68
    have kB := ((Below.refl W.heap.size W).alloc (Nat.le_refl _) (.cells (instV ⟨op, form, frm, kind, rd, rs1, rs2, rs3, rm, imm, csr⟩) 27)).alloc (by simp) (.cells (useV zeroU) 68)
    rw [World.size_alloc] at kU
    obtain ⟨A, hA⟩ : ∃ A, (W.alloc (.cells (instV ⟨op, form, frm, kind, rd, rs1, rs2, rs3, rm, imm, csr⟩) 27)).alloc (.cells (useV zeroU) 68) = A := ⟨_, rfl⟩
    rw [hA] at kI kU kB
    have c0 : A.cell? ⟨W.heap.size, 0, none⟩ = some (.int .u8 (op : Nat)) := kI.cell 0
    have c4 : A.cell? ⟨W.heap.size, 4, none⟩ = some (.int .u8 (rd : Nat)) := kI.cell 4
    have c5 : A.cell? ⟨W.heap.size, 5, none⟩ = some (.int .u8 (rs1 : Nat)) := kI.cell 5
    have c6 : A.cell? ⟨W.heap.size, 6, none⟩ = some (.int .u8 (rs2 : Nat)) := kI.cell 6
    have c7 : A.cell? ⟨W.heap.size, 7, none⟩ = some (.int .u8 (rs3 : Nat)) := kI.cell 7
    have HA := Lib.hid hA
    have KU := Lib.hid kU
    have KB := Lib.hid kB
    clear hA kI kU kB
    go_enter Try.func45, Try.ntmps45
    go_wp2
    show Code.wp _ _ _ _ ((W.alloc (.cells (instV ⟨op, form, frm, kind, rd, rs1, rs2, rs3, rm, imm, csr⟩) 27)).alloc (.cells (useV zeroU) 68))
    rw [HA.out]
    clear HA
    refine wp_region_sets_lit (fun _ w' => ∃ q, w' = A.drewN q) (by kernel_rfl) (by kernel_rfl) ⟨1, rfl⟩ ?_
    (repeat (first | (refine sets_quiet (fun w' => ∃ q, w' = A.drewN q) (fun _ _ h => h) rfl (fun _ _ _ h => h) rfl ?_; intro K hK; go_big_quiet_op; first | go_big_quiet_on | (refine ⟨_, fun _ => rfl, ?_⟩; go_big_quiet_on)) | (refine sets_nil rfl (fun _ _ _ h => h) _ rfl _ rfl ?_; simp only [Act.put, List.setIfInBounds_toArray, List.set_cons_succ, List.set_cons_zero]) | (refine sets_skip rfl (fun _ _ _ h => h) ?_; simp only [Act.put, List.setIfInBounds_toArray, List.set_cons_succ, List.set_cons_zero])))
    rintro S _ _ ⟨q2, rfl⟩
    have ku := KU.out.drewN q2
    go_wp2_with (first
      | (refine wpList_store_blk rfl _ _ _ rfl _ _ rfl rfl _ _ ku (by kernel_rfl) rfl (by simp [Value.oneCell']) ?_))
    rw [HU4.out]
    exact bodyPost_ret (results_cell rfl _ _ (W.heap.size + 1) _ _ _ rfl (ku.row _) Try.underlying68 rfl (by kernel_rfl)) rfl ⟨rfl, below_setRow (below_drewN KB.out) (by omega) _⟩
theorem ruses_K (W : World) (op form frm kind rd rs1 rs2 rs3 rm : Nat) (imm : Int) (csr : Nat) (hop : op = 22 ∨ op = 25) (h1 : rd < 32) (h2 : rs1 < 32) (h3 : rs2 < 32) (h4 : rs3 < 32) :
    Calls Try.prog 45 #[.agg (instV ⟨op, form, frm, kind, rd, rs1, rs2, rs3, rm, imm, csr⟩)] W fun e w' => e = .returned (.agg (useV (USE ⟨op, form, frm, kind, rd, rs1, rs2, rs3, rm, imm, csr⟩))) ∧ Below W.heap.size W w' := by
  obtain ⟨a, ha⟩ : ∃ p, 2 ^ rd = p := ⟨_, rfl⟩
  have ea := pow_wrap h1 ha
  have la := pow_lt32 h1 ha
  obtain ⟨b, hb⟩ : ∃ p, 2 ^ rs1 = p := ⟨_, rfl⟩
  have eb := pow_wrap h2 hb
  have lb := pow_lt32 h2 hb
  obtain ⟨c, hc⟩ : ∃ p, 2 ^ rs2 = p := ⟨_, rfl⟩
  have ec := pow_wrap h3 hc
  have lc := pow_lt32 h3 hc
  obtain ⟨d, hd⟩ : ∃ p, 2 ^ rs3 = p := ⟨_, rfl⟩
  have ed := pow_wrap h4 hd
  have ld := pow_lt32 h4 hd
  have HU4 : Hid (USE ⟨op, form, frm, kind, rd, rs1, rs2, rs3, rm, imm, csr⟩ = ⟨b, 0, 0, a⟩) := Lib.hid (by
    unfold USE
    rcases hop with rfl | rfl
    all_goals (simp only []; first | (rw [ha, hb]; first | rfl | (simp; done)) | (simp [ha, hb, hc, hd]; done)))
  have z1 : ((op : Int) == 1) = false := by rw [beq_eq_false_iff_ne]; omega
  have z2 : ((op : Int) == 2) = false := by rw [beq_eq_false_iff_ne]; omega
  have z3 : ((op : Int) == 3) = false := by rw [beq_eq_false_iff_ne]; omega
  have z4 : ((op : Int) == 4) = false := by rw [beq_eq_false_iff_ne]; omega
  have z5 : ((op : Int) == 5) = false := by rw [beq_eq_false_iff_ne]; omega
  have z6 : ((op : Int) == 6) = false := by rw [beq_eq_false_iff_ne]; omega
  have z11 : ((op : Int) == 11) = false := by rw [beq_eq_false_iff_ne]; omega
  have z17 : ((op : Int) == 17) = false := by rw [beq_eq_false_iff_ne]; omega
  have z18 : ((op : Int) == 18) = false := by rw [beq_eq_false_iff_ne]; omega
  have z19 : ((op : Int) == 19) = false := by rw [beq_eq_false_iff_ne]; omega
  have z20 : ((op : Int) == 20) = false := by rw [beq_eq_false_iff_ne]; omega
  have z21 : ((op : Int) == 21) = false := by rw [beq_eq_false_iff_ne]; omega
  have z23 : ((op : Int) == 23) = false := by rw [beq_eq_false_iff_ne]; omega
  have z24 : ((op : Int) == 24) = false := by rw [beq_eq_false_iff_ne]; omega
  have hz : (((op : Int) == 22) = true) ∨ (((op : Int) == 22) = false ∧ ((op : Int) == 25) = true) := by rcases hop with rfl | rfl <;> simp
  rcases hz with y22 | ⟨y22, y25⟩
  clear hop
  all_goals
    clear ha hb hc hd
    have kI := (Blk.new W (instV ⟨op, form, frm, kind, rd, rs1, rs2, rs3, rm, imm, csr⟩) 27).alloc (.cells (useV zeroU) 68)
    have kU := Blk.new (W.alloc (.cells (instV ⟨op, form, frm, kind, rd, rs1, rs2, rs3, rm, imm, csr⟩) 27)) (useV zeroU) 68
    have kB := ((Below.refl W.heap.size W).alloc (Nat.le_refl _) (.cells (instV ⟨op, form, frm, kind, rd, rs1, rs2, rs3, rm, imm, csr⟩) 27)).alloc (by simp) (.cells (useV zeroU) 68)
    rw [World.size_alloc] at kU
    obtain ⟨A, hA⟩ : ∃ A, (W.alloc (.cells (instV ⟨op, form, frm, kind, rd, rs1, rs2, rs3, rm, imm, csr⟩) 27)).alloc (.cells (useV zeroU) 68) = A := ⟨_, rfl⟩
    rw [hA] at kI kU kB
    have c0 : A.cell? ⟨W.heap.size, 0, none⟩ = some (.int .u8 (op : Nat)) := kI.cell 0
    have c4 : A.cell? ⟨W.heap.size, 4, none⟩ = some (.int .u8 (rd : Nat)) := kI.cell 4
    have c5 : A.cell? ⟨W.heap.size, 5, none⟩ = some (.int .u8 (rs1 : Nat)) := kI.cell 5
    have c6 : A.cell? ⟨W.heap.size, 6, none⟩ = some (.int .u8 (rs2 : Nat)) := kI.cell 6
    have c7 : A.cell? ⟨W.heap.size, 7, none⟩ = some (.int .u8 (rs3 : Nat)) := kI.cell 7
    have HA := Lib.hid hA
    have KU := Lib.hid kU
    have KB := Lib.hid kB
    clear hA kI kU kB
    go_enter Try.func45, Try.ntmps45
    go_wp2
    show Code.wp _ _ _ _ ((W.alloc (.cells (instV ⟨op, form, frm, kind, rd, rs1, rs2, rs3, rm, imm, csr⟩) 27)).alloc (.cells (useV zeroU) 68))
    rw [HA.out]
    clear HA
    refine wp_region_sets_lit (fun _ w' => ∃ q, w' = A.drewN q) (by kernel_rfl) (by kernel_rfl) ⟨1, rfl⟩ ?_
    (repeat (first | (refine sets_quiet (fun w' => ∃ q, w' = A.drewN q) (fun _ _ h => h) rfl (fun _ _ _ h => h) rfl ?_; intro K hK; go_big_quiet_op; first | go_big_quiet_on | (refine ⟨_, fun _ => rfl, ?_⟩; go_big_quiet_on)) | (refine sets_nil rfl (fun _ _ _ h => h) _ rfl _ rfl ?_; simp only [Act.put, List.setIfInBounds_toArray, List.set_cons_succ, List.set_cons_zero]) | (refine sets_skip rfl (fun _ _ _ h => h) ?_; simp only [Act.put, List.setIfInBounds_toArray, List.set_cons_succ, List.set_cons_zero])))
    rintro S _ _ ⟨q2, rfl⟩
    have ku := KU.out.drewN q2
    go_wp2_with (first
      | (refine wpList_store_blk rfl _ _ _ rfl _ _ rfl rfl _ _ ku (by kernel_rfl) rfl (by simp [Value.oneCell']) ?_))
    rw [HU4.out]
    exact bodyPost_ret (results_cell rfl _ _ (W.heap.size + 1) _ _ _ rfl (ku.row _) Try.underlying68 rfl (by kernel_rfl)) rfl ⟨rfl, below_setRow (below_drewN KB.out) (by omega) _⟩
theorem ruses_C (W : World) (op form frm kind rd rs1 rs2 rs3 rm : Nat) (imm : Int) (csr : Nat) (hop : op = 26 ∨ op = 27 ∨ op = 28) (h1 : rd < 32) (h2 : rs1 < 32) (h3 : rs2 < 32) (h4 : rs3 < 32) :
    Calls Try.prog 45 #[.agg (instV ⟨op, form, frm, kind, rd, rs1, rs2, rs3, rm, imm, csr⟩)] W fun e w' => e = .returned (.agg (useV (USE ⟨op, form, frm, kind, rd, rs1, rs2, rs3, rm, imm, csr⟩))) ∧ Below W.heap.size W w' := by
  obtain ⟨a, ha⟩ : ∃ p, 2 ^ rd = p := ⟨_, rfl⟩
  have ea := pow_wrap h1 ha
  have la := pow_lt32 h1 ha
  obtain ⟨b, hb⟩ : ∃ p, 2 ^ rs1 = p := ⟨_, rfl⟩
  have eb := pow_wrap h2 hb
  have lb := pow_lt32 h2 hb
  obtain ⟨c, hc⟩ : ∃ p, 2 ^ rs2 = p := ⟨_, rfl⟩
  have ec := pow_wrap h3 hc
  have lc := pow_lt32 h3 hc
  obtain ⟨d, hd⟩ : ∃ p, 2 ^ rs3 = p := ⟨_, rfl⟩
  have ed := pow_wrap h4 hd
  have ld := pow_lt32 h4 hd
  have HU4 : Hid (USE ⟨op, form, frm, kind, rd, rs1, rs2, rs3, rm, imm, csr⟩ = ⟨b, 0, a, 0⟩) := Lib.hid (by
    unfold USE
    rcases hop with rfl | rfl | rfl
    all_goals (simp only []; first | (rw [ha, hb]; first | rfl | (simp; done)) | (simp [ha, hb, hc, hd]; done)))
  have z1 : ((op : Int) == 1) = false := by rw [beq_eq_false_iff_ne]; omega
  have z2 : ((op : Int) == 2) = false := by rw [beq_eq_false_iff_ne]; omega
  have z3 : ((op : Int) == 3) = false := by rw [beq_eq_false_iff_ne]; omega
  have z4 : ((op : Int) == 4) = false := by rw [beq_eq_false_iff_ne]; omega
  have z5 : ((op : Int) == 5) = false := by rw [beq_eq_false_iff_ne]; omega
  have z6 : ((op : Int) == 6) = false := by rw [beq_eq_false_iff_ne]; omega
  have z11 : ((op : Int) == 11) = false := by rw [beq_eq_false_iff_ne]; omega
  have z17 : ((op : Int) == 17) = false := by rw [beq_eq_false_iff_ne]; omega
  have z18 : ((op : Int) == 18) = false := by rw [beq_eq_false_iff_ne]; omega
  have z19 : ((op : Int) == 19) = false := by rw [beq_eq_false_iff_ne]; omega
  have z20 : ((op : Int) == 20) = false := by rw [beq_eq_false_iff_ne]; omega
  have z21 : ((op : Int) == 21) = false := by rw [beq_eq_false_iff_ne]; omega
  have z23 : ((op : Int) == 23) = false := by rw [beq_eq_false_iff_ne]; omega
  have z24 : ((op : Int) == 24) = false := by rw [beq_eq_false_iff_ne]; omega
  have z22 : ((op : Int) == 22) = false := by rw [beq_eq_false_iff_ne]; omega
  have z25 : ((op : Int) == 25) = false := by rw [beq_eq_false_iff_ne]; omega
  have hz : (((op : Int) == 26) = true) ∨ (((op : Int) == 26) = false ∧ ((op : Int) == 27) = true) ∨ (((op : Int) == 26) = false ∧ ((op : Int) == 27) = false ∧ ((op : Int) == 28) = true) := by rcases hop with rfl | rfl | rfl <;> simp
  rcases hz with y26 | ⟨y26, y27⟩ | ⟨y26, y27, y28⟩
  clear hop
  all_goals
    clear ha hb hc hd
    have kI := (Blk.new W (instV ⟨op, form, frm, kind, rd, rs1, rs2, rs3, rm, imm, csr⟩) 27).alloc (.cells (useV zeroU) 68)
    have kU := Blk.new (W.alloc (.cells (instV ⟨op, form, frm, kind, rd, rs1, rs2, rs3, rm, imm, csr⟩) 27)) (useV zeroU) 68
    have kB := ((Below.refl W.heap.size W).alloc (Nat.le_refl _) (.cells (instV ⟨op, form, frm, kind, rd, rs1, rs2, rs3, rm, imm, csr⟩) 27)).alloc (by simp) (.cells (useV zeroU) 68)
    rw [World.size_alloc] at kU
    obtain ⟨A, hA⟩ : ∃ A, (W.alloc (.cells (instV ⟨op, form, frm, kind, rd, rs1, rs2, rs3, rm, imm, csr⟩) 27)).alloc (.cells (useV zeroU) 68) = A := ⟨_, rfl⟩
    rw [hA] at kI kU kB
    have c0 : A.cell? ⟨W.heap.size, 0, none⟩ = some (.int .u8 (op : Nat)) := kI.cell 0
    have c4 : A.cell? ⟨W.heap.size, 4, none⟩ = some (.int .u8 (rd : Nat)) := kI.cell 4
    have c5 : A.cell? ⟨W.heap.size, 5, none⟩ = some (.int .u8 (rs1 : Nat)) := kI.cell 5
    have c6 : A.cell? ⟨W.heap.size, 6, none⟩ = some (.int .u8 (rs2 : Nat)) := kI.cell 6
    have c7 : A.cell? ⟨W.heap.size, 7, none⟩ = some (.int .u8 (rs3 : Nat)) := kI.cell 7
    have HA := Lib.hid hA
    have KU := Lib.hid kU
    have KB := Lib.hid kB
    clear hA kI kU kB
    go_enter Try.func45, Try.ntmps45
    go_wp2
    show Code.wp _ _ _ _ ((W.alloc (.cells (instV ⟨op, form, frm, kind, rd, rs1, rs2, rs3, rm, imm, csr⟩) 27)).alloc (.cells (useV zeroU) 68))
    rw [HA.out]
    clear HA
    refine wp_region_sets_lit (fun _ w' => ∃ q, w' = A.drewN q) (by kernel_rfl) (by kernel_rfl) ⟨1, rfl⟩ ?_
    (repeat (first | (refine sets_quiet (fun w' => ∃ q, w' = A.drewN q) (fun _ _ h => h) rfl (fun _ _ _ h => h) rfl ?_; intro K hK; go_big_quiet_op; first | go_big_quiet_on | (refine ⟨_, fun _ => rfl, ?_⟩; go_big_quiet_on)) | (refine sets_nil rfl (fun _ _ _ h => h) _ rfl _ rfl ?_; simp only [Act.put, List.setIfInBounds_toArray, List.set_cons_succ, List.set_cons_zero]) | (refine sets_skip rfl (fun _ _ _ h => h) ?_; simp only [Act.put, List.setIfInBounds_toArray, List.set_cons_succ, List.set_cons_zero])))
    rintro S _ _ ⟨q2, rfl⟩
    have ku := KU.out.drewN q2
    go_wp2_with (first
      | (refine wpList_store_blk rfl _ _ _ rfl _ _ rfl rfl _ _ ku (by kernel_rfl) rfl (by simp [Value.oneCell']) ?_))
    rw [HU4.out]
    exact bodyPost_ret (results_cell rfl _ _ (W.heap.size + 1) _ _ _ rfl (ku.row _) Try.underlying68 rfl (by kernel_rfl)) rfl ⟨rfl, below_setRow (below_drewN KB.out) (by omega) _⟩
theorem ruses_D (W : World) (op form frm kind rd rs1 rs2 rs3 rm : Nat) (imm : Int) (csr : Nat) (hop : op = 29 ∨ op = 30 ∨ op = 31) (h1 : rd < 32) (h2 : rs1 < 32) (h3 : rs2 < 32) (h4 : rs3 < 32) :
    Calls Try.prog 45 #[.agg (instV ⟨op, form, frm, kind, rd, rs1, rs2, rs3, rm, imm, csr⟩)] W fun e w' => e = .returned (.agg (useV (USE ⟨op, form, frm, kind, rd, rs1, rs2, rs3, rm, imm, csr⟩))) ∧ Below W.heap.size W w' := by
  obtain ⟨a, ha⟩ : ∃ p, 2 ^ rd = p := ⟨_, rfl⟩
  have ea := pow_wrap h1 ha
  have la := pow_lt32 h1 ha
  obtain ⟨b, hb⟩ : ∃ p, 2 ^ rs1 = p := ⟨_, rfl⟩
  have eb := pow_wrap h2 hb
  have lb := pow_lt32 h2 hb
  obtain ⟨c, hc⟩ : ∃ p, 2 ^ rs2 = p := ⟨_, rfl⟩
  have ec := pow_wrap h3 hc
  have lc := pow_lt32 h3 hc
  obtain ⟨d, hd⟩ : ∃ p, 2 ^ rs3 = p := ⟨_, rfl⟩
  have ed := pow_wrap h4 hd
  have ld := pow_lt32 h4 hd
  have HU4 : Hid (USE ⟨op, form, frm, kind, rd, rs1, rs2, rs3, rm, imm, csr⟩ = ⟨0, 0, a, 0⟩) := Lib.hid (by
    unfold USE
    rcases hop with rfl | rfl | rfl
    all_goals (simp only []; first | (rw [ha]; first | rfl | (simp; done)) | (simp [ha, hb, hc, hd]; done)))
  have z1 : ((op : Int) == 1) = false := by rw [beq_eq_false_iff_ne]; omega
  have z2 : ((op : Int) == 2) = false := by rw [beq_eq_false_iff_ne]; omega
  have z3 : ((op : Int) == 3) = false := by rw [beq_eq_false_iff_ne]; omega
  have z4 : ((op : Int) == 4) = false := by rw [beq_eq_false_iff_ne]; omega
  have z5 : ((op : Int) == 5) = false := by rw [beq_eq_false_iff_ne]; omega
  have z6 : ((op : Int) == 6) = false := by rw [beq_eq_false_iff_ne]; omega
  have z11 : ((op : Int) == 11) = false := by rw [beq_eq_false_iff_ne]; omega
  have z17 : ((op : Int) == 17) = false := by rw [beq_eq_false_iff_ne]; omega
  have z18 : ((op : Int) == 18) = false := by rw [beq_eq_false_iff_ne]; omega
  have z19 : ((op : Int) == 19) = false := by rw [beq_eq_false_iff_ne]; omega
  have z20 : ((op : Int) == 20) = false := by rw [beq_eq_false_iff_ne]; omega
  have z21 : ((op : Int) == 21) = false := by rw [beq_eq_false_iff_ne]; omega
  have z23 : ((op : Int) == 23) = false := by rw [beq_eq_false_iff_ne]; omega
  have z24 : ((op : Int) == 24) = false := by rw [beq_eq_false_iff_ne]; omega
  have z22 : ((op : Int) == 22) = false := by rw [beq_eq_false_iff_ne]; omega
  have z25 : ((op : Int) == 25) = false := by rw [beq_eq_false_iff_ne]; omega
  have z26 : ((op : Int) == 26) = false := by rw [beq_eq_false_iff_ne]; omega
  have z27 : ((op : Int) == 27) = false := by rw [beq_eq_false_iff_ne]; omega
  have z28 : ((op : Int) == 28) = false := by rw [beq_eq_false_iff_ne]; omega
  have hz : (((op : Int) == 29) = true) ∨ (((op : Int) == 29) = false ∧ ((op : Int) == 30) = true) ∨ (((op : Int) == 29) = false ∧ ((op : Int) == 30) = false ∧ ((op : Int) == 31) = true) := by rcases hop with rfl | rfl | rfl <;> simp
  rcases hz with y29 | ⟨y29, y30⟩ | ⟨y29, y30, y31⟩
  clear hop
  all_goals
    clear ha hb hc hd
    have kI := (Blk.new W (instV ⟨op, form, frm, kind, rd, rs1, rs2, rs3, rm, imm, csr⟩) 27).alloc (.cells (useV zeroU) 68)
    have kU := Blk.new (W.alloc (.cells (instV ⟨op, form, frm, kind, rd, rs1, rs2, rs3, rm, imm, csr⟩) 27)) (useV zeroU) 68
    have kB := ((Below.refl W.heap.size W).alloc (Nat.le_refl _) (.cells (instV ⟨op, form, frm, kind, rd, rs1, rs2, rs3, rm, imm, csr⟩) 27)).alloc (by simp) (.cells (useV zeroU) 68)
    rw [World.size_alloc] at kU
    obtain ⟨A, hA⟩ : ∃ A, (W.alloc (.cells (instV ⟨op, form, frm, kind, rd, rs1, rs2, rs3, rm, imm, csr⟩) 27)).alloc (.cells (useV zeroU) 68) = A := ⟨_, rfl⟩
    rw [hA] at kI kU kB
    have c0 : A.cell? ⟨W.heap.size, 0, none⟩ = some (.int .u8 (op : Nat)) := kI.cell 0
    have c4 : A.cell? ⟨W.heap.size, 4, none⟩ = some (.int .u8 (rd : Nat)) := kI.cell 4
    have c5 : A.cell? ⟨W.heap.size, 5, none⟩ = some (.int .u8 (rs1 : Nat)) := kI.cell 5
    have c6 : A.cell? ⟨W.heap.size, 6, none⟩ = some (.int .u8 (rs2 : Nat)) := kI.cell 6
    have c7 : A.cell? ⟨W.heap.size, 7, none⟩ = some (.int .u8 (rs3 : Nat)) := kI.cell 7
    have HA := Lib.hid hA
    have KU := Lib.hid kU
    have KB := Lib.hid kB
    clear hA kI kU kB
    go_enter Try.func45, Try.ntmps45
    go_wp2
    show Code.wp _ _ _ _ ((W.alloc (.cells (instV ⟨op, form, frm, kind, rd, rs1, rs2, rs3, rm, imm, csr⟩) 27)).alloc (.cells (useV zeroU) 68))
    rw [HA.out]
    clear HA
    refine wp_region_sets_lit (fun _ w' => ∃ q, w' = A.drewN q) (by kernel_rfl) (by kernel_rfl) ⟨1, rfl⟩ ?_
    (repeat (first | (refine sets_quiet (fun w' => ∃ q, w' = A.drewN q) (fun _ _ h => h) rfl (fun _ _ _ h => h) rfl ?_; intro K hK; go_big_quiet_op; first | go_big_quiet_on | (refine ⟨_, fun _ => rfl, ?_⟩; go_big_quiet_on)) | (refine sets_nil rfl (fun _ _ _ h => h) _ rfl _ rfl ?_; simp only [Act.put, List.setIfInBounds_toArray, List.set_cons_succ, List.set_cons_zero]) | (refine sets_skip rfl (fun _ _ _ h => h) ?_; simp only [Act.put, List.setIfInBounds_toArray, List.set_cons_succ, List.set_cons_zero])))
    rintro S _ _ ⟨q2, rfl⟩
    have ku := KU.out.drewN q2
    go_wp2_with (first
      | (refine wpList_store_blk rfl _ _ _ rfl _ _ rfl rfl _ _ ku (by kernel_rfl) rfl (by simp [Value.oneCell']) ?_))
    rw [HU4.out]
    exact bodyPost_ret (results_cell rfl _ _ (W.heap.size + 1) _ _ _ rfl (ku.row _) Try.underlying68 rfl (by kernel_rfl)) rfl ⟨rfl, below_setRow (below_drewN KB.out) (by omega) _⟩
theorem ruses_I (W : World) (op form frm kind rd rs1 rs2 rs3 rm : Nat) (imm : Int) (csr : Nat) (hop : op = 7 ∨ op = 8 ∨ op = 9 ∨ op = 10 ∨ op = 12 ∨ op = 13 ∨ op = 14 ∨ op = 15 ∨ op = 16) (h1 : rd < 32) (h2 : rs1 < 32) (h3 : rs2 < 32) (h4 : rs3 < 32) :
    Calls Try.prog 45 #[.agg (instV ⟨op, form, frm, kind, rd, rs1, rs2, rs3, rm, imm, csr⟩)] W fun e w' => e = .returned (.agg (useV (USE ⟨op, form, frm, kind, rd, rs1, rs2, rs3, rm, imm, csr⟩))) ∧ Below W.heap.size W w' := by
  obtain ⟨a, ha⟩ : ∃ p, 2 ^ rd = p := ⟨_, rfl⟩
  have ea := pow_wrap h1 ha
  have la := pow_lt32 h1 ha
  obtain ⟨b, hb⟩ : ∃ p, 2 ^ rs1 = p := ⟨_, rfl⟩
  have eb := pow_wrap h2 hb
  have lb := pow_lt32 h2 hb
  obtain ⟨c, hc⟩ : ∃ p, 2 ^ rs2 = p := ⟨_, rfl⟩
  have ec := pow_wrap h3 hc
  have lc := pow_lt32 h3 hc
  obtain ⟨d, hd⟩ : ∃ p, 2 ^ rs3 = p := ⟨_, rfl⟩
  have ed := pow_wrap h4 hd
  have ld := pow_lt32 h4 hd
  obtain ⟨bc, hbc⟩ : ∃ p, b ||| c = p := ⟨_, rfl⟩
  have ebc : bits .or .u32 (b : Int) (c : Int) = ((bc : Nat) : Int) := by rw [← hbc]; exact or32 b c lb lc
  have HU4 : Hid (USE ⟨op, form, frm, kind, rd, rs1, rs2, rs3, rm, imm, csr⟩ = ⟨0, bc, 0, a⟩) := Lib.hid (by
    unfold USE
    rcases hop with rfl | rfl | rfl | rfl | rfl | rfl | rfl | rfl | rfl
    all_goals (simp only []; first | (rw [ha, hb, hc, hbc]; first | rfl | (simp; done)) | (simp [ha, hb, hc, hd]; done)))
  have z1 : ((op : Int) == 1) = false := by rw [beq_eq_false_iff_ne]; omega
  have z2 : ((op : Int) == 2) = false := by rw [beq_eq_false_iff_ne]; omega
  have z3 : ((op : Int) == 3) = false := by rw [beq_eq_false_iff_ne]; omega
  have z4 : ((op : Int) == 4) = false := by rw [beq_eq_false_iff_ne]; omega
  have z5 : ((op : Int) == 5) = false := by rw [beq_eq_false_iff_ne]; omega
  have z6 : ((op : Int) == 6) = false := by rw [beq_eq_false_iff_ne]; omega
  have z11 : ((op : Int) == 11) = false := by rw [beq_eq_false_iff_ne]; omega
  have z17 : ((op : Int) == 17) = false := by rw [beq_eq_false_iff_ne]; omega
  have z18 : ((op : Int) == 18) = false := by rw [beq_eq_false_iff_ne]; omega
  have z19 : ((op : Int) == 19) = false := by rw [beq_eq_false_iff_ne]; omega
  have z20 : ((op : Int) == 20) = false := by rw [beq_eq_false_iff_ne]; omega
  have z21 : ((op : Int) == 21) = false := by rw [beq_eq_false_iff_ne]; omega
  have z23 : ((op : Int) == 23) = false := by rw [beq_eq_false_iff_ne]; omega
  have z24 : ((op : Int) == 24) = false := by rw [beq_eq_false_iff_ne]; omega
  have z22 : ((op : Int) == 22) = false := by rw [beq_eq_false_iff_ne]; omega
  have z25 : ((op : Int) == 25) = false := by rw [beq_eq_false_iff_ne]; omega
  have z26 : ((op : Int) == 26) = false := by rw [beq_eq_false_iff_ne]; omega
  have z27 : ((op : Int) == 27) = false := by rw [beq_eq_false_iff_ne]; omega
  have z28 : ((op : Int) == 28) = false := by rw [beq_eq_false_iff_ne]; omega
  have z29 : ((op : Int) == 29) = false := by rw [beq_eq_false_iff_ne]; omega
  have z30 : ((op : Int) == 30) = false := by rw [beq_eq_false_iff_ne]; omega
  have z31 : ((op : Int) == 31) = false := by rw [beq_eq_false_iff_ne]; omega
  clear hop
  all_goals
    clear ha hb hc hd hbc
    have kI := (Blk.new W (instV ⟨op, form, frm, kind, rd, rs1, rs2, rs3, rm, imm, csr⟩) 27).alloc (.cells (useV zeroU) 68)
    have kU := Blk.new (W.alloc (.cells (instV ⟨op, form, frm, kind, rd, rs1, rs2, rs3, rm, imm, csr⟩) 27)) (useV zeroU) 68
    have kB := ((Below.refl W.heap.size W).alloc (Nat.le_refl _) (.cells (instV ⟨op, form, frm, kind, rd, rs1, rs2, rs3, rm, imm, csr⟩) 27)).alloc (by simp) (.cells (useV zeroU) 68)
    rw [World.size_alloc] at kU
    obtain ⟨A, hA⟩ : ∃ A, (W.alloc (.cells (instV ⟨op, form, frm, kind, rd, rs1, rs2, rs3, rm, imm, csr⟩) 27)).alloc (.cells (useV zeroU) 68) = A := ⟨_, rfl⟩
    rw [hA] at kI kU kB
    have c0 : A.cell? ⟨W.heap.size, 0, none⟩ = some (.int .u8 (op : Nat)) := kI.cell 0
    have c4 : A.cell? ⟨W.heap.size, 4, none⟩ = some (.int .u8 (rd : Nat)) := kI.cell 4
    have c5 : A.cell? ⟨W.heap.size, 5, none⟩ = some (.int .u8 (rs1 : Nat)) := kI.cell 5
    have c6 : A.cell? ⟨W.heap.size, 6, none⟩ = some (.int .u8 (rs2 : Nat)) := kI.cell 6
    have c7 : A.cell? ⟨W.heap.size, 7, none⟩ = some (.int .u8 (rs3 : Nat)) := kI.cell 7
    have HA := Lib.hid hA
    have KU := Lib.hid kU
    have KB := Lib.hid kB
    clear hA kI kU kB
    go_enter Try.func45, Try.ntmps45
    go_wp2
    show Code.wp _ _ _ _ ((W.alloc (.cells (instV ⟨op, form, frm, kind, rd, rs1, rs2, rs3, rm, imm, csr⟩) 27)).alloc (.cells (useV zeroU) 68))
    rw [HA.out]
    clear HA
    refine wp_region_sets_lit (fun _ w' => ∃ q, w' = A.drewN q) (by kernel_rfl) (by kernel_rfl) ⟨1, rfl⟩ ?_
    (repeat (first | (refine sets_quiet (fun w' => ∃ q, w' = A.drewN q) (fun _ _ h => h) rfl (fun _ _ _ h => h) rfl ?_; intro K hK; go_big_quiet_op; first | go_big_quiet_on | (refine ⟨_, fun _ => rfl, ?_⟩; go_big_quiet_on)) | (refine sets_nil rfl (fun _ _ _ h => h) _ rfl _ rfl ?_; simp only [Act.put, List.setIfInBounds_toArray, List.set_cons_succ, List.set_cons_zero]) | (refine sets_skip rfl (fun _ _ _ h => h) ?_; simp only [Act.put, List.setIfInBounds_toArray, List.set_cons_succ, List.set_cons_zero])))
    rintro S _ _ ⟨q2, rfl⟩
    have ku := KU.out.drewN q2
    go_wp2_with (first
      | (refine wpList_store_blk rfl _ _ _ rfl _ _ rfl rfl _ _ ku (by kernel_rfl) rfl (by simp [Value.oneCell']) ?_))
    rw [HU4.out]
    exact bodyPost_ret (results_cell rfl _ _ (W.heap.size + 1) _ _ _ rfl (ku.row _) Try.underlying68 rfl (by kernel_rfl)) rfl ⟨rfl, below_setRow (below_drewN KB.out) (by omega) _⟩
theorem ruses_c (W : World) (x : I11) (h1 : x.rd < 32) (h2 : x.rs1 < 32) (h3 : x.rs2 < 32) (h4 : x.rs3 < 32) (ho : 1 ≤ x.op ∧ x.op ≤ 31) : Calls Try.prog 45 #[.agg (instV x)] W fun e w' => e = .returned (.agg (useV (USE x))) ∧ Below W.heap.size W w' := by
  obtain ⟨op, form, frm, kind, rd, rs1, rs2, rs3, rm, imm, csr⟩ := x
  simp only [] at h1 h2 h3 h4 ho
  have hop : (op = 1) ∨ (op = 2) ∨ (op = 3 ∨ op = 4 ∨ op = 5 ∨ op = 6) ∨ (op = 11 ∨ op = 17) ∨ (op = 18 ∨ op = 19 ∨ op = 20) ∨ (op = 21 ∨ op = 23 ∨ op = 24) ∨ (op = 22 ∨ op = 25) ∨ (op = 26 ∨ op = 27 ∨ op = 28) ∨ (op = 29 ∨ op = 30 ∨ op = 31) ∨ (op = 7 ∨ op = 8 ∨ op = 9 ∨ op = 10 ∨ op = 12 ∨ op = 13 ∨ op = 14 ∨ op = 15 ∨ op = 16) := by omega
  rcases hop with h | h | h | h | h | h | h | h | h | h
  · exact ruses_A W _ _ _ _ _ _ _ _ _ _ _ h h1 h2 h3 h4
  · exact ruses_B W _ _ _ _ _ _ _ _ _ _ _ h h1 h2 h3 h4
  · exact ruses_H W _ _ _ _ _ _ _ _ _ _ _ h h1 h2 h3 h4
  · exact ruses_G W _ _ _ _ _ _ _ _ _ _ _ h h1 h2 h3 h4
  · exact ruses_F W _ _ _ _ _ _ _ _ _ _ _ h h1 h2 h3 h4
  · exact ruses_E W _ _ _ _ _ _ _ _ _ _ _ h h1 h2 h3 h4
  · exact ruses_K W _ _ _ _ _ _ _ _ _ _ _ h h1 h2 h3 h4
  · exact ruses_C W _ _ _ _ _ _ _ _ _ _ _ h h1 h2 h3 h4
  · exact ruses_D W _ _ _ _ _ _ _ _ _ _ _ h h1 h2 h3 h4
  · exact ruses_I W _ _ _ _ _ _ _ _ _ _ _ h h1 h2 h3 h4
end Go.Proofs.Ytaddmgclnbkdgaa
