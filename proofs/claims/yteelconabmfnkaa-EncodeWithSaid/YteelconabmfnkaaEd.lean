/- encode.mode, the first functions of encode.lays. -/
import Derived.Test.YteelconabmfnkaaPda
import Derived.Test.YteelconabmfnkaaKka
namespace Go.Proofs.Yteelconabmfnkaa
open Go Go.RowKit
set_option maxHeartbeats 4000000
set_option maxRecDepth 100000
set_option linter.unusedVariables false
set_option linter.unusedSimpArgs false
section
variable {P : Program} {ops : Array Oper} {I : (Nat → Bool) → World → Prop} {Q : Act → Prop} {k : Nat} {o : Oper} {rest : List Oper} {a : Act}
/-- a whole aggregate is stored -/
theorem sets_store_blk (hw : Region.wanted o (yielded ops a.tmps) = true) (t : TypeId) (x y : Operand) (ho : o.op = .store t x y) (hd : o.dst = none) (g : Nat) (cells : Array Value) (hx : a.eval x = .pointer (some ⟨g, 0, none⟩)) (hy : a.eval y = .agg cells)
    (t' : TypeId) (hi : (P.info? t).map (·.size) = some cells.size) (h1 : cells.all (·.oneCell') = true)
    (hc : ∀ S w, S k = false → closedS ops S → (∀ e ∈ o.after, Region.binds .any e = true → S e.on = true) → I S w → (∃ old, Blk w g old t' ∧ old.size = cells.size) ∧ I (ins S k) (w.setRow g cells))
    (h : wpSets P ops I Q (k + 1) rest a) : wpSets P ops I Q k (o :: rest) a := by
  refine ⟨undef, .inl ⟨hw, fun S w hS hcl ha hIw => ?_⟩, by rw [hd]; exact h⟩
  obtain ⟨⟨old, h2, h3⟩, h4⟩ := hc S w hS hcl ha hIw
  have hrun : (Instr.storeAt t (.pointer (some ⟨g, 0, none⟩)) (.agg cells)).run P w = .ok () (w.setRow g cells) := by
    simp only [Instr.storeAt, Instr.sureAddr, Sem.run_bind, Sem.run_pure, Result.andThen_ok, run_storeVar_row w g t' t old cells h2 hi h3 h1]
  unfold opTo execOp
  simp only [ho, hx, hy, run_u, hrun, Result.andThen_ok]
  exact ⟨rfl, h4⟩
end
def modeB (m : Nat) : Bool := decide (m < 5) || m == 7
theorem mode_c (W : World) (m : Nat) : Calls Try.prog 91 #[.int .u8 m] W fun e w' => e = .returned (.bool (modeB m)) ∧ w' = W := by
  have e7 : ((m : Int) == 7) = (m == 7) := by rw [Bool.eq_iff_iff]; simp only [beq_iff_eq]; omega
  by_cases h : m < 5
  · have z : decide ((m : Int) < 5) = true := decide_eq_true (by omega)
    have HM : Hid (modeB m = true) := Lib.hid (by unfold modeB; rw [decide_eq_true h]; rfl)
    clear e7 h
    go_enter Try.func91, Try.ntmps91
    go_wp2
    go_ret
    exact ⟨ret1 (vbool HM.out.symm), rfl⟩
  · have z : decide ((m : Int) < 5) = false := decide_eq_false (by omega)
    have HM : Hid (modeB m = (m == 7)) := Lib.hid (by unfold modeB; rw [decide_eq_false h]; rfl)
    cases h7 : (m == 7) <;> rw [h7] at e7 HM
    all_goals
      clear h7 h
      go_enter Try.func91, Try.ntmps91
      go_wp2
      go_ret
      exact ⟨ret1 (vbool HM.out.symm), rfl⟩
def immB (x : I11) : Bool := decide (-2048 ≤ x.imm) && decide (x.imm < 2048)
theorem imm_c (W : World) (x : I11) : Calls Try.prog 94 #[.agg (instV x)] W fun e w' => e = .returned (.bool (immB x)) ∧ Below W.heap.size W w' := by
  obtain ⟨op, form, frm, kind, rd, rs1, rs2, rs3, rm, imm, csr⟩ := x
  have hB := (Below.refl W.heap.size W).alloc (Nat.le_refl _) (.cells (instV ⟨op, form, frm, kind, rd, rs1, rs2, rs3, rm, imm, csr⟩) 27)
  have HB := Lib.hid hB
  clear hB
  unfold immB
  simp only []
  cases h1 : decide (-2048 ≤ imm) <;> cases h2 : decide (imm < 2048)
  all_goals
    go_enter Try.func94, Try.ntmps94
    go_wp2
    go_ret
    exact ⟨rfl, HB.out⟩
/-- what the functions hand back: the word's bits count only where it may be -/
def LayP (W : World) (own : I11) (may : Bool) (V : Nat) (e : Ending) (w' : World) : Prop := ∃ z : Nat, e = .returned (.tuple #[.agg (instV own), .bool may, .int .u32 (z : Nat)]) ∧ (may = true → z = V) ∧ z < 4294967296 ∧ Below W.heap.size W w'
theorem results_c2 {P : Program} {fn : Func} {p t t2 ty : Nat} (h : fn.results = #[.cell p ty, .tmp t, .tmp t2]) (tmps : Array Value) (w : World) (g : Nat) (tt : TypeId) (cs : Array Value) (d : TypeDesc)
    (hp : tmps.getD p undef = .pointer (some ⟨g, 0, none⟩)) (hg : Blk w g cs tt) (hu : P.underlying ty = some d) (hd : isRow d = true) (hi : (P.info? ty).map (·.size) = some cs.size) :
    (results fn tmps).run P w = .ok (.tuple #[.agg cs, tmps.getD t undef, tmps.getD t2 undef]) w := by
  have := run_load_blk (P := P) w g tt cs d hg hu hd hi
  have hp' : tmps[p]?.getD undef = .pointer (some ⟨g, 0, none⟩) := by simpa using hp
  simp [results, h, asAddr, hp', this]
theorem or_sum {a v : Nat} (k n : Nat) (h : a / 2 ^ k % 2 ^ n = 0) (hv : v < 2 ^ n) : a ||| v * 2 ^ k = a + v * 2 ^ k := by
  have h1 : a &&& v * 2 ^ k = 0 := by
    apply Nat.eq_of_testBit_eq
    intro i
    rw [Nat.testBit_and, Nat.zero_testBit, Nat.testBit_mul_two_pow]
    by_cases hk : k ≤ i
    · by_cases hn : i - k < n
      · have e := congrArg (·.testBit (i - k)) h
        simp only [Nat.testBit_mod_two_pow, Nat.testBit_div_two_pow, decide_eq_true hn, Bool.true_and, show i - k + k = i by omega, Nat.zero_testBit] at e
        rw [e]; rfl
      · have : v.testBit (i - k) = false := Nat.testBit_lt_two_pow (Nat.lt_of_lt_of_le hv (Nat.pow_le_pow_right (by decide) (by omega)))
        rw [this]; simp
    · rw [decide_eq_false (by omega)]; simp
  have key : ∀ n a b : Nat, a &&& b = 0 → a + b < 2 ^ n → a ||| b = a + b := by
    intro n a b hab hle
    have ha : a < 2 ^ n := by omega
    have hb : b < 2 ^ n := by omega
    have hx : BitVec.ofNat n a &&& BitVec.ofNat n b = BitVec.ofNat n 0 := by
      apply BitVec.eq_of_toNat_eq
      rw [BitVec.toNat_and, BitVec.toNat_ofNat, BitVec.toNat_ofNat, Nat.mod_eq_of_lt ha, Nat.mod_eq_of_lt hb, hab]
      simp
    have := BitVec.add_eq_or_of_and_eq_zero _ _ hx
    have t := congrArg BitVec.toNat this
    rw [BitVec.toNat_or, BitVec.toNat_ofNat, BitVec.toNat_ofNat, Nat.mod_eq_of_lt ha, Nat.mod_eq_of_lt hb, BitVec.toNat_add, BitVec.toNat_ofNat, BitVec.toNat_ofNat, Nat.mod_eq_of_lt ha, Nat.mod_eq_of_lt hb] at t
    rw [Nat.mod_eq_of_lt hle] at t
    exact t.symm
  obtain ⟨m, hm⟩ : ∃ m, a + v * 2 ^ k < 2 ^ m := ⟨a + v * 2 ^ k, Nat.lt_two_pow_self⟩
  exact key m _ _ h1 hm
abbrev ownRd (x : I11) : I11 := { zeroI with rd := x.rd, rs1 := x.rs1 }
theorem lay1_c (W : World) (x : I11) (hrd : x.rd < 256) (hrs : x.rs1 < 256) : Calls Try.prog 89 #[.agg (instV x)] W (LayP W (ownRd x) (decide (x.rd < 32) && decide (x.rs1 < 32)) (128 * x.rd + 32768 * x.rs1)) := by
  obtain ⟨op, form, frm, kind, rd, rs1, rs2, rs3, rm, imm, csr⟩ := x
  simp only [] at hrd hrs
  have kI := (Blk.new W (instV ⟨op, form, frm, kind, rd, rs1, rs2, rs3, rm, imm, csr⟩) 27).alloc (.cells (instV zeroI) 27)
  have kO := Blk.new (W.alloc (.cells (instV ⟨op, form, frm, kind, rd, rs1, rs2, rs3, rm, imm, csr⟩) 27)) (instV zeroI) 27
  have kB := ((Below.refl W.heap.size W).alloc (Nat.le_refl _) (.cells (instV ⟨op, form, frm, kind, rd, rs1, rs2, rs3, rm, imm, csr⟩) 27)).alloc (by simp) (.cells (instV zeroI) 27)
  rw [World.size_alloc] at kO
  obtain ⟨A, hA⟩ : ∃ A, (W.alloc (.cells (instV ⟨op, form, frm, kind, rd, rs1, rs2, rs3, rm, imm, csr⟩) 27)).alloc (.cells (instV zeroI) 27) = A := ⟨_, rfl⟩
  rw [hA] at kI kO kB
  have c4 : A.cell? ⟨W.heap.size, 4, none⟩ = some (.int .u8 (rd : Nat)) := kI.cell 4
  have c5 : A.cell? ⟨W.heap.size, 5, none⟩ = some (.int .u8 (rs1 : Nat)) := kI.cell 5
  have HA := Lib.hid hA
  have KI := Lib.hid kI
  have KO := Lib.hid kO
  have KB := Lib.hid kB
  clear hA kI kO kB
  obtain ⟨z, hz⟩ : ∃ z, rd * 128 ||| rs1 * 32768 = z := ⟨_, rfl⟩
  have e1 : bits .or .u32 ((rd : Int) * 128) ((rs1 : Int) * 32768) = ((z : Nat) : Int) := by
    have h1 : (rd : Int) * 128 = ((rd * 128 : Nat) : Int) := by omega
    have h2 : (rs1 : Int) * 32768 = ((rs1 * 32768 : Nat) : Int) := by omega
    rw [h1, h2, or32 _ _ (by omega) (by omega), hz]
  have HZ : Hid (rd < 32 → rs1 < 32 → z = 128 * rd + 32768 * rs1) := Lib.hid (fun h3 h4 => by
    rw [← hz, or_sum (a := rd * 128) (v := rs1) 15 5 (by omega) h4]
    omega)
  have hz32 : z < 4294967296 := by rw [← hz]; exact or_lt32 (by omega) (by omega)
  have HZ32 := Lib.hid hz32
  clear hz hz32
  by_cases h3 : rd < 32
  · have y3 : decide ((rd : Int) < 32) = true := decide_eq_true (by omega)
    by_cases h4 : rs1 < 32
    · have y4 : decide ((rs1 : Int) < 32) = true := decide_eq_true (by omega)
      have HM : Hid ((decide (rd < 32) && decide (rs1 < 32)) = true) := Lib.hid (by rw [decide_eq_true h3, decide_eq_true h4]; rfl)
      go_enter Try.func89, Try.ntmps89
      go_wp2
      show Code.wp _ _ _ _ ((W.alloc (.cells (instV ⟨op, form, frm, kind, rd, rs1, rs2, rs3, rm, imm, csr⟩) 27)).alloc (.cells (instV zeroI) 27))
      rw [HA.out]
      refine wp_region_sets_lit (fun S X => Blk X W.heap.size (instV ⟨op, form, frm, kind, rd, rs1, rs2, rs3, rm, imm, csr⟩) 27 ∧ Blk X (W.heap.size + 1) (bif S 22 then instV ⟨0, 0, 0, 0, rd, rs1, 0, 0, 0, 0, 0⟩ else instV zeroI) 27 ∧ Below W.heap.size W X) (by kernel_rfl) (by kernel_rfl) ⟨KI.out, KO.out, KB.out.drew⟩ ?_
      obtain ⟨U, V, hV, hU⟩ := worlds (fun S X => Blk X W.heap.size (instV ⟨op, form, frm, kind, rd, rs1, rs2, rs3, rm, imm, csr⟩) 27 ∧ Blk X (W.heap.size + 1) (bif S 22 then instV ⟨0, 0, 0, 0, rd, rs1, 0, 0, 0, 0, 0⟩ else instV zeroI) 27 ∧ Below W.heap.size W X)
      have k4 : ∀ u, (V u).cell? ⟨W.heap.size, 4, none⟩ = some (.int .u8 (rd : Nat)) := fun u => by obtain ⟨S, h, _⟩ := hV u; exact h.cell 4
      have k5 : ∀ u, (V u).cell? ⟨W.heap.size, 5, none⟩ = some (.int .u8 (rs1 : Nat)) := fun u => by obtain ⟨S, h, _⟩ := hV u; exact h.cell 5
      replace hV := Lib.hid hV
      replace hU := Lib.hid hU
      (repeat (first | (refine sets_quiet (fun w' => ∃ u, w' = V u) hU.out rfl (fun _ _ _ h => h) rfl ?_; intro K hK; go_big_quiet_op; first | go_big_quiet_on | (refine ⟨_, fun _ => rfl, ?_⟩; go_big_quiet_on)) | (refine sets_skip rfl (fun _ _ _ h => h) ?_; simp only [Act.put, List.setIfInBounds_toArray, List.set_cons_succ, List.set_cons_zero])))
      refine sets_store_blk rfl _ _ _ rfl rfl (W.heap.size + 1) (instV ⟨0, 0, 0, 0, rd, rs1, 0, 0, 0, 0, 0⟩) rfl rfl 27 (by kernel_rfl) (by simp [Value.oneCell']) ?_ ?_
      · rintro S X a1 _ _ ⟨i1, i2, i3⟩
        exact ⟨⟨_, i2, by cases S 22 <;> rfl⟩, i1.rowOther _ (by omega), i2.row _, below_setRow i3 (by omega) _⟩
      (repeat (first | (refine sets_quiet (fun w' => ∃ u, w' = V u) hU.out rfl (fun _ _ _ h => h) rfl ?_; intro K hK; go_big_quiet_op; first | go_big_quiet_on | (refine ⟨_, fun _ => rfl, ?_⟩; go_big_quiet_on)) | (refine sets_skip rfl (fun _ _ _ h => h) ?_; simp only [Act.put, List.setIfInBounds_toArray, List.set_cons_succ, List.set_cons_zero])))
      rintro S X hS ⟨i1, i2, i3⟩
      rw [show S 22 = true from hS 22 (by decide), cond_true] at i2
      clear hU hV k4 k5
      go_wp2
      exact bodyPost_ret (results_c2 rfl _ _ (W.heap.size + 1) _ _ _ rfl i2 Try.underlying27 rfl (by kernel_rfl)) rfl ⟨z, by rw [HM.out]; rfl, fun _ => HZ.out h3 h4, HZ32.out, i3⟩
    · have y4 : decide ((rs1 : Int) < 32) = false := decide_eq_false (by omega)
      have HM : Hid ((decide (rd < 32) && decide (rs1 < 32)) = false) := Lib.hid (by rw [decide_eq_false h4, Bool.and_false])
      go_enter Try.func89, Try.ntmps89
      go_wp2
      show Code.wp _ _ _ _ ((W.alloc (.cells (instV ⟨op, form, frm, kind, rd, rs1, rs2, rs3, rm, imm, csr⟩) 27)).alloc (.cells (instV zeroI) 27))
      rw [HA.out]
      refine wp_region_sets_lit (fun S X => Blk X W.heap.size (instV ⟨op, form, frm, kind, rd, rs1, rs2, rs3, rm, imm, csr⟩) 27 ∧ Blk X (W.heap.size + 1) (bif S 22 then instV ⟨0, 0, 0, 0, rd, rs1, 0, 0, 0, 0, 0⟩ else instV zeroI) 27 ∧ Below W.heap.size W X) (by kernel_rfl) (by kernel_rfl) ⟨KI.out, KO.out, KB.out.drew⟩ ?_
      obtain ⟨U, V, hV, hU⟩ := worlds (fun S X => Blk X W.heap.size (instV ⟨op, form, frm, kind, rd, rs1, rs2, rs3, rm, imm, csr⟩) 27 ∧ Blk X (W.heap.size + 1) (bif S 22 then instV ⟨0, 0, 0, 0, rd, rs1, 0, 0, 0, 0, 0⟩ else instV zeroI) 27 ∧ Below W.heap.size W X)
      have k4 : ∀ u, (V u).cell? ⟨W.heap.size, 4, none⟩ = some (.int .u8 (rd : Nat)) := fun u => by obtain ⟨S, h, _⟩ := hV u; exact h.cell 4
      have k5 : ∀ u, (V u).cell? ⟨W.heap.size, 5, none⟩ = some (.int .u8 (rs1 : Nat)) := fun u => by obtain ⟨S, h, _⟩ := hV u; exact h.cell 5
      replace hV := Lib.hid hV
      replace hU := Lib.hid hU
      (repeat (first | (refine sets_quiet (fun w' => ∃ u, w' = V u) hU.out rfl (fun _ _ _ h => h) rfl ?_; intro K hK; go_big_quiet_op; first | go_big_quiet_on | (refine ⟨_, fun _ => rfl, ?_⟩; go_big_quiet_on)) | (refine sets_skip rfl (fun _ _ _ h => h) ?_; simp only [Act.put, List.setIfInBounds_toArray, List.set_cons_succ, List.set_cons_zero])))
      refine sets_store_blk rfl _ _ _ rfl rfl (W.heap.size + 1) (instV ⟨0, 0, 0, 0, rd, rs1, 0, 0, 0, 0, 0⟩) rfl rfl 27 (by kernel_rfl) (by simp [Value.oneCell']) ?_ ?_
      · rintro S X a1 _ _ ⟨i1, i2, i3⟩
        exact ⟨⟨_, i2, by cases S 22 <;> rfl⟩, i1.rowOther _ (by omega), i2.row _, below_setRow i3 (by omega) _⟩
      (repeat (first | (refine sets_quiet (fun w' => ∃ u, w' = V u) hU.out rfl (fun _ _ _ h => h) rfl ?_; intro K hK; go_big_quiet_op; first | go_big_quiet_on | (refine ⟨_, fun _ => rfl, ?_⟩; go_big_quiet_on)) | (refine sets_skip rfl (fun _ _ _ h => h) ?_; simp only [Act.put, List.setIfInBounds_toArray, List.set_cons_succ, List.set_cons_zero])))
      rintro S X hS ⟨i1, i2, i3⟩
      rw [show S 22 = true from hS 22 (by decide), cond_true] at i2
      clear hU hV k4 k5
      go_wp2
      exact bodyPost_ret (results_c2 rfl _ _ (W.heap.size + 1) _ _ _ rfl i2 Try.underlying27 rfl (by kernel_rfl)) rfl ⟨z, by rw [HM.out]; rfl, fun h => (by rw [HM.out] at h; cases h), HZ32.out, i3⟩
  · have y3 : decide ((rd : Int) < 32) = false := decide_eq_false (by omega)
    have HM : Hid ((decide (rd < 32) && decide (rs1 < 32)) = false) := Lib.hid (by rw [decide_eq_false h3, Bool.false_and])
    focus
      go_enter Try.func89, Try.ntmps89
      go_wp2
      show Code.wp _ _ _ _ ((W.alloc (.cells (instV ⟨op, form, frm, kind, rd, rs1, rs2, rs3, rm, imm, csr⟩) 27)).alloc (.cells (instV zeroI) 27))
      rw [HA.out]
      refine wp_region_sets_lit (fun S X => Blk X W.heap.size (instV ⟨op, form, frm, kind, rd, rs1, rs2, rs3, rm, imm, csr⟩) 27 ∧ Blk X (W.heap.size + 1) (bif S 22 then instV ⟨0, 0, 0, 0, rd, rs1, 0, 0, 0, 0, 0⟩ else instV zeroI) 27 ∧ Below W.heap.size W X) (by kernel_rfl) (by kernel_rfl) ⟨KI.out, KO.out, KB.out.drew⟩ ?_
      obtain ⟨U, V, hV, hU⟩ := worlds (fun S X => Blk X W.heap.size (instV ⟨op, form, frm, kind, rd, rs1, rs2, rs3, rm, imm, csr⟩) 27 ∧ Blk X (W.heap.size + 1) (bif S 22 then instV ⟨0, 0, 0, 0, rd, rs1, 0, 0, 0, 0, 0⟩ else instV zeroI) 27 ∧ Below W.heap.size W X)
      have k4 : ∀ u, (V u).cell? ⟨W.heap.size, 4, none⟩ = some (.int .u8 (rd : Nat)) := fun u => by obtain ⟨S, h, _⟩ := hV u; exact h.cell 4
      have k5 : ∀ u, (V u).cell? ⟨W.heap.size, 5, none⟩ = some (.int .u8 (rs1 : Nat)) := fun u => by obtain ⟨S, h, _⟩ := hV u; exact h.cell 5
      replace hV := Lib.hid hV
      replace hU := Lib.hid hU
      (repeat (first | (refine sets_quiet (fun w' => ∃ u, w' = V u) hU.out rfl (fun _ _ _ h => h) rfl ?_; intro K hK; go_big_quiet_op; first | go_big_quiet_on | (refine ⟨_, fun _ => rfl, ?_⟩; go_big_quiet_on)) | (refine sets_skip rfl (fun _ _ _ h => h) ?_; simp only [Act.put, List.setIfInBounds_toArray, List.set_cons_succ, List.set_cons_zero])))
      refine sets_store_blk rfl _ _ _ rfl rfl (W.heap.size + 1) (instV ⟨0, 0, 0, 0, rd, rs1, 0, 0, 0, 0, 0⟩) rfl rfl 27 (by kernel_rfl) (by simp [Value.oneCell']) ?_ ?_
      · rintro S X a1 _ _ ⟨i1, i2, i3⟩
        exact ⟨⟨_, i2, by cases S 22 <;> rfl⟩, i1.rowOther _ (by omega), i2.row _, below_setRow i3 (by omega) _⟩
      (repeat (first | (refine sets_quiet (fun w' => ∃ u, w' = V u) hU.out rfl (fun _ _ _ h => h) rfl ?_; intro K hK; go_big_quiet_op; first | go_big_quiet_on | (refine ⟨_, fun _ => rfl, ?_⟩; go_big_quiet_on)) | (refine sets_skip rfl (fun _ _ _ h => h) ?_; simp only [Act.put, List.setIfInBounds_toArray, List.set_cons_succ, List.set_cons_zero])))
      rintro S X hS ⟨i1, i2, i3⟩
      rw [show S 22 = true from hS 22 (by decide), cond_true] at i2
      clear hU hV k4 k5
      go_wp2
      exact bodyPost_ret (results_c2 rfl _ _ (W.heap.size + 1) _ _ _ rfl i2 Try.underlying27 rfl (by kernel_rfl)) rfl ⟨z, by rw [HM.out]; rfl, fun h => (by rw [HM.out] at h; cases h), HZ32.out, i3⟩
end Go.Proofs.Yteelconabmfnkaa
