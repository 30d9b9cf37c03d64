/- Tqa: several texts in one. -/
import Derived.Test.YteelconabmfnkaaPda
/- decode.Uses at some Ops. -/
namespace Go.Proofs.Yteelconabmfnkaa
open Go Go.RowKit
set_option maxHeartbeats 4000000
set_option maxRecDepth 100000
set_option linter.unusedVariables false
set_option linter.unusedSimpArgs false
theorem uses_A (W : World) (w : Nat) (hw : w < 4294967296) (op form frm kind rd rs1 rs2 rs3 rm : Nat) (imm : Int) (csr : Nat) (hop : op = 1 ∨ op = 22 ∨ op = 25) (h1 : rd < 32) (h2 : rs1 < 32) (h3 : rs2 < 32) (h4 : rs3 < 32) (hd : DEC w = some ⟨op, form, frm, kind, rd, rs1, rs2, rs3, rm, imm, csr⟩) :
    Calls Try.prog 41 #[.int .u32 w] W (UsesP W w) := by
  have C1 : Hid (∀ X, Calls Try.prog 22 #[.int .u32 w] X fun e w' => e = .returned (.tuple #[.agg (instV ⟨op, form, frm, kind, rd, rs1, rs2, rs3, rm, imm, csr⟩), .int .i64 0]) ∧ Below X.heap.size X w') := Lib.hid fun X => by
    have := decode_c X w hw
    unfold DecP at this
    rw [hd] at this
    exact this
  unfold UsesP
  rw [hd]
  clear hd
  obtain ⟨b, hb⟩ : ∃ p, 2 ^ rs1 = p := ⟨_, rfl⟩
  have Bb := Lib.hid (fun X => bit_c X rs1 b h2 hb)
  have lb := pow_lt32 h2 hb
  obtain ⟨a, ha⟩ : ∃ p, 2 ^ rd = p := ⟨_, rfl⟩
  have Ba := Lib.hid (fun X => bit_c X rd a h1 ha)
  have la := pow_lt32 h1 ha
  have HU4 : Hid (USE ⟨op, form, frm, kind, rd, rs1, rs2, rs3, rm, imm, csr⟩ = ⟨b, 0, 0, a⟩) := Lib.hid (by
    unfold USE
    rcases hop with rfl | rfl | rfl
    all_goals (simp only []; rw [hb, ha]; first | rfl | (simp; done)))
  have hz : (((op : Int) == 1) = true) ∨ (((op : Int) == 1) = false ∧ ((op : Int) == 22) = true) ∨ (((op : Int) == 1) = false ∧ ((op : Int) == 22) = false ∧ ((op : Int) == 25) = true) := by rcases hop with rfl | rfl | rfl <;> simp
  rcases hz with y1 | ⟨y1, y22⟩ | ⟨y1, y22, y25⟩
  clear hop
  all_goals
    clear hb ha
    go_enter Try.func41, Try.ntmps41
    have k0 := Blk.new W (useV zeroU) 68
    go_wp2_with (first
      | (go_at_call 22; (with_reducible refine (C1.out _).mono ?_); rintro e w1 ⟨rfl, hb⟩))
    have kI := (Blk.new w1 (instV ⟨op, form, frm, kind, rd, rs1, rs2, rs3, rm, imm, csr⟩) 27).alloc (.cells (useV zeroU) 68)
    have kU := Blk.new (w1.alloc (.cells (instV ⟨op, form, frm, kind, rd, rs1, rs2, rs3, rm, imm, csr⟩) 27)) (useV zeroU) 68
    have kZ := ((k0.below hb (by simp)).alloc (.cells (instV ⟨op, form, frm, kind, rd, rs1, rs2, rs3, rm, imm, csr⟩) 27)).alloc (.cells (useV zeroU) 68)
    have hw1 : W.heap.size + 1 ≤ w1.heap.size := by have := hb.size; simpa using this
    have kB := ((((Below.refl W.heap.size W).alloc (Nat.le_refl _) (.cells (useV zeroU) 68)).trans (hb.mono (by simp))).alloc (by omega) (.cells (instV ⟨op, form, frm, kind, rd, rs1, rs2, rs3, rm, imm, csr⟩) 27)).alloc (by simp; omega) (.cells (useV zeroU) 68)
    rw [World.size_alloc] at kU
    obtain ⟨Wn, hWn⟩ : ∃ Wn, (w1.alloc (.cells (instV ⟨op, form, frm, kind, rd, rs1, rs2, rs3, rm, imm, csr⟩) 27)).alloc (.cells (useV zeroU) 68) = Wn := ⟨_, rfl⟩
    show Code.wp _ _ _ _ ((w1.alloc (.cells (instV ⟨op, form, frm, kind, rd, rs1, rs2, rs3, rm, imm, csr⟩) 27)).alloc (.cells (useV zeroU) 68))
    rw [hWn] at kI kU kZ kB ⊢
    clear hWn hb k0 C1
    replace hw1 := Lib.hid hw1
    refine wp_region_sets_lit (fun S X => Blk X w1.heap.size (instV ⟨op, form, frm, kind, rd, rs1, rs2, rs3, rm, imm, csr⟩) 27 ∧ Blk X (w1.heap.size + 1) #[.int .u32 ((bif S 9 then b else 0 : Nat) : Nat), .int .u32 ((0 : Nat) : Nat), .int .u32 ((0 : Nat) : Nat), .int .u32 ((bif S 11 then a else 0 : Nat) : Nat)] 68 ∧ Blk X W.heap.size (useV zeroU) 68 ∧ Below W.heap.size W X) (by kernel_rfl) (by kernel_rfl) ⟨kI, kU, kZ, kB.drew⟩ ?_
    obtain ⟨U, V, hV, hU⟩ := worlds (fun S X => Blk X w1.heap.size (instV ⟨op, form, frm, kind, rd, rs1, rs2, rs3, rm, imm, csr⟩) 27 ∧ Blk X (w1.heap.size + 1) #[.int .u32 ((bif S 9 then b else 0 : Nat) : Nat), .int .u32 ((0 : Nat) : Nat), .int .u32 ((0 : Nat) : Nat), .int .u32 ((bif S 11 then a else 0 : Nat) : Nat)] 68 ∧ Blk X W.heap.size (useV zeroU) 68 ∧ Below W.heap.size W X)
    have kb : ∀ u, (V u).cell? ⟨w1.heap.size, 5, none⟩ = some (.int .u8 (rs1 : Nat)) := fun u => by obtain ⟨S, h, _⟩ := hV u; exact h.cell 5
    have ka : ∀ u, (V u).cell? ⟨w1.heap.size, 4, none⟩ = some (.int .u8 (rd : Nat)) := fun u => by obtain ⟨S, h, _⟩ := hV u; exact h.cell 4
    replace hV := Lib.hid hV
    replace hU := Lib.hid hU
    clear kI kU kZ kB
    (repeat (refine sets_quiet (fun w' => ∃ u, w' = V u) hU.out rfl (fun _ _ _ h => h) rfl ?_; intro K hK; go_big_quiet_op; first | go_big_quiet_on | (refine ⟨_, fun _ => rfl, ?_⟩; go_big_quiet_on)))
    refine sets_callv (.int .u32 (b : Nat)) rfl _ 68 [] [] [_] _ rfl rfl Try.f68 Try.func68 (by kernel_rfl) (by kernel_rfl) [_] rfl (fun S X h1 h2 h3 => ?_) ?_
    · refine (Bb.out X).mono ?_
      rintro e X2 ⟨rfl, rfl⟩
      exact ⟨rfl, h3⟩
    simp only [Act.put, List.setIfInBounds_toArray, List.set_cons_succ, List.set_cons_zero]
    (repeat (refine sets_quiet (fun w' => ∃ u, w' = V u) hU.out rfl (fun _ _ _ h => h) rfl ?_; intro K hK; go_big_quiet_op; first | go_big_quiet_on | (refine ⟨_, fun _ => rfl, ?_⟩; go_big_quiet_on)))
    refine sets_callv (.int .u32 (a : Nat)) rfl _ 68 [] [] [_] _ rfl rfl Try.f68 Try.func68 (by kernel_rfl) (by kernel_rfl) [_] rfl (fun S X h1 h2 h3 => ?_) ?_
    · refine (Ba.out X).mono ?_
      rintro e X2 ⟨rfl, rfl⟩
      exact ⟨rfl, h3⟩
    simp only [Act.put, List.setIfInBounds_toArray, List.set_cons_succ, List.set_cons_zero]
    (repeat (refine sets_quiet (fun w' => ∃ u, w' = V u) hU.out rfl (fun _ _ _ h => h) rfl ?_; intro K hK; go_big_quiet_op; first | go_big_quiet_on | (refine ⟨_, fun _ => rfl, ?_⟩; go_big_quiet_on)))
    refine sets_store rfl 28 _ _ rfl rfl ⟨w1.heap.size + 1, 0, none⟩ rfl (.int .u32 (b : Nat)) rfl rfl (by kernel_rfl) ?_ ?_
    · rintro S X h1 h2 ⟨i1, i2, i3, i4⟩
      exact ⟨⟨_, i2.cell 0⟩, i2.frozen 0, i1.other _ _ (by omega), i2.set 0 _, i3.other _ _ (by have := hw1.out; omega), i4.setCell (p := ⟨w1.heap.size + 1, 0, none⟩) (by show W.heap.size ≤ w1.heap.size + 1; have := hw1.out; omega) _⟩
    (repeat (refine sets_quiet (fun w' => ∃ u, w' = V u) hU.out rfl (fun _ _ _ h => h) rfl ?_; intro K hK; go_big_quiet_op; first | go_big_quiet_on | (refine ⟨_, fun _ => rfl, ?_⟩; go_big_quiet_on)))
    refine sets_store rfl 28 _ _ rfl rfl ⟨w1.heap.size + 1, 3, none⟩ rfl (.int .u32 (a : Nat)) rfl rfl (by kernel_rfl) ?_ ?_
    · rintro S X h1 h2 ⟨i1, i2, i3, i4⟩
      exact ⟨⟨_, i2.cell 3⟩, i2.frozen 3, i1.other _ _ (by omega), i2.set 3 _, i3.other _ _ (by have := hw1.out; omega), i4.setCell (p := ⟨w1.heap.size + 1, 3, none⟩) (by show W.heap.size ≤ w1.heap.size + 1; have := hw1.out; omega) _⟩
    rintro S X hS ⟨i1, i2, i3, i4⟩
    rw [show S 9 = true from hS 9 (by decide), show S 11 = true from hS 11 (by decide)] at i2
    simp only [cond_true] at i2
    replace i1 := Lib.hid i1
    replace i4 := Lib.hid i4
    clear hU hV kb ka
    go_wp2_with (first
      | (refine wpList_load_blk rfl _ _ rfl _ rfl _ _ _ i2 Try.underlying68 rfl (by kernel_rfl) ?_)
      | (refine wpList_store_blk rfl _ _ _ rfl _ _ rfl rfl _ _ i3 (by kernel_rfl) rfl (by simp [Value.oneCell']) ?_))
    exact bodyPost_ret (results_cell_tmp rfl _ _ W.heap.size _ _ _ rfl (i3.row _) Try.underlying68 rfl (by kernel_rfl)) rfl ⟨by simp only [Option.map_some, Option.getD_some, HU4.out]; rfl, below_setRow i4.out (Nat.le_refl _) _⟩
theorem uses_B (W : World) (w : Nat) (hw : w < 4294967296) (op form frm kind rd rs1 rs2 rs3 rm : Nat) (imm : Int) (csr : Nat) (hop : op = 2) (h1 : rd < 32) (h2 : rs1 < 32) (h3 : rs2 < 32) (h4 : rs3 < 32) (hd : DEC w = some ⟨op, form, frm, kind, rd, rs1, rs2, rs3, rm, imm, csr⟩) :
    Calls Try.prog 41 #[.int .u32 w] W (UsesP W w) := by
  have C1 : Hid (∀ X, Calls Try.prog 22 #[.int .u32 w] X fun e w' => e = .returned (.tuple #[.agg (instV ⟨op, form, frm, kind, rd, rs1, rs2, rs3, rm, imm, csr⟩), .int .i64 0]) ∧ Below X.heap.size X w') := Lib.hid fun X => by
    have := decode_c X w hw
    unfold DecP at this
    rw [hd] at this
    exact this
  unfold UsesP
  rw [hd]
  clear hd
  obtain ⟨b, hb⟩ : ∃ p, 2 ^ rs1 = p := ⟨_, rfl⟩
  have Bb := Lib.hid (fun X => bit_c X rs1 b h2 hb)
  have lb := pow_lt32 h2 hb
  obtain ⟨c, hc⟩ : ∃ p, 2 ^ rs2 = p := ⟨_, rfl⟩
  have Bc := Lib.hid (fun X => bit_c X rs2 c h3 hc)
  have lc := pow_lt32 h3 hc
  have HU4 : Hid (USE ⟨op, form, frm, kind, rd, rs1, rs2, rs3, rm, imm, csr⟩ = ⟨b, c, 0, 0⟩) := Lib.hid (by
    unfold USE
    subst hop
    all_goals (simp only []; rw [hb, hc]; first | rfl | (simp; done)))
  have z1 : ((op : Int) == 1) = false := by rw [beq_eq_false_iff_ne]; omega
  have z22 : ((op : Int) == 22) = false := by rw [beq_eq_false_iff_ne]; omega
  have z25 : ((op : Int) == 25) = false := by rw [beq_eq_false_iff_ne]; omega
  have hz : ((op : Int) == 2) = true := by subst hop; rfl
  skip
  clear hop
  all_goals
    clear hb hc
    go_enter Try.func41, Try.ntmps41
    have k0 := Blk.new W (useV zeroU) 68
    go_wp2_with (first
      | (go_at_call 22; (with_reducible refine (C1.out _).mono ?_); rintro e w1 ⟨rfl, hb⟩))
    have kI := (Blk.new w1 (instV ⟨op, form, frm, kind, rd, rs1, rs2, rs3, rm, imm, csr⟩) 27).alloc (.cells (useV zeroU) 68)
    have kU := Blk.new (w1.alloc (.cells (instV ⟨op, form, frm, kind, rd, rs1, rs2, rs3, rm, imm, csr⟩) 27)) (useV zeroU) 68
    have kZ := ((k0.below hb (by simp)).alloc (.cells (instV ⟨op, form, frm, kind, rd, rs1, rs2, rs3, rm, imm, csr⟩) 27)).alloc (.cells (useV zeroU) 68)
    have hw1 : W.heap.size + 1 ≤ w1.heap.size := by have := hb.size; simpa using this
    have kB := ((((Below.refl W.heap.size W).alloc (Nat.le_refl _) (.cells (useV zeroU) 68)).trans (hb.mono (by simp))).alloc (by omega) (.cells (instV ⟨op, form, frm, kind, rd, rs1, rs2, rs3, rm, imm, csr⟩) 27)).alloc (by simp; omega) (.cells (useV zeroU) 68)
    rw [World.size_alloc] at kU
    obtain ⟨Wn, hWn⟩ : ∃ Wn, (w1.alloc (.cells (instV ⟨op, form, frm, kind, rd, rs1, rs2, rs3, rm, imm, csr⟩) 27)).alloc (.cells (useV zeroU) 68) = Wn := ⟨_, rfl⟩
    show Code.wp _ _ _ _ ((w1.alloc (.cells (instV ⟨op, form, frm, kind, rd, rs1, rs2, rs3, rm, imm, csr⟩) 27)).alloc (.cells (useV zeroU) 68))
    rw [hWn] at kI kU kZ kB ⊢
    clear hWn hb k0 C1
    replace hw1 := Lib.hid hw1
    refine wp_region_sets_lit (fun S X => Blk X w1.heap.size (instV ⟨op, form, frm, kind, rd, rs1, rs2, rs3, rm, imm, csr⟩) 27 ∧ Blk X (w1.heap.size + 1) #[.int .u32 ((bif S 9 then b else 0 : Nat) : Nat), .int .u32 ((bif S 11 then c else 0 : Nat) : Nat), .int .u32 ((0 : Nat) : Nat), .int .u32 ((0 : Nat) : Nat)] 68 ∧ Blk X W.heap.size (useV zeroU) 68 ∧ Below W.heap.size W X) (by kernel_rfl) (by kernel_rfl) ⟨kI, kU, kZ, kB.drew⟩ ?_
    obtain ⟨U, V, hV, hU⟩ := worlds (fun S X => Blk X w1.heap.size (instV ⟨op, form, frm, kind, rd, rs1, rs2, rs3, rm, imm, csr⟩) 27 ∧ Blk X (w1.heap.size + 1) #[.int .u32 ((bif S 9 then b else 0 : Nat) : Nat), .int .u32 ((bif S 11 then c else 0 : Nat) : Nat), .int .u32 ((0 : Nat) : Nat), .int .u32 ((0 : Nat) : Nat)] 68 ∧ Blk X W.heap.size (useV zeroU) 68 ∧ Below W.heap.size W X)
    have kb : ∀ u, (V u).cell? ⟨w1.heap.size, 5, none⟩ = some (.int .u8 (rs1 : Nat)) := fun u => by obtain ⟨S, h, _⟩ := hV u; exact h.cell 5
    have kc : ∀ u, (V u).cell? ⟨w1.heap.size, 6, none⟩ = some (.int .u8 (rs2 : Nat)) := fun u => by obtain ⟨S, h, _⟩ := hV u; exact h.cell 6
    replace hV := Lib.hid hV
    replace hU := Lib.hid hU
    clear kI kU kZ kB
    (repeat (refine sets_quiet (fun w' => ∃ u, w' = V u) hU.out rfl (fun _ _ _ h => h) rfl ?_; intro K hK; go_big_quiet_op; first | go_big_quiet_on | (refine ⟨_, fun _ => rfl, ?_⟩; go_big_quiet_on)))
    refine sets_callv (.int .u32 (b : Nat)) rfl _ 68 [] [] [_] _ rfl rfl Try.f68 Try.func68 (by kernel_rfl) (by kernel_rfl) [_] rfl (fun S X h1 h2 h3 => ?_) ?_
    · refine (Bb.out X).mono ?_
      rintro e X2 ⟨rfl, rfl⟩
      exact ⟨rfl, h3⟩
    simp only [Act.put, List.setIfInBounds_toArray, List.set_cons_succ, List.set_cons_zero]
    (repeat (refine sets_quiet (fun w' => ∃ u, w' = V u) hU.out rfl (fun _ _ _ h => h) rfl ?_; intro K hK; go_big_quiet_op; first | go_big_quiet_on | (refine ⟨_, fun _ => rfl, ?_⟩; go_big_quiet_on)))
    refine sets_callv (.int .u32 (c : Nat)) rfl _ 68 [] [] [_] _ rfl rfl Try.f68 Try.func68 (by kernel_rfl) (by kernel_rfl) [_] rfl (fun S X h1 h2 h3 => ?_) ?_
    · refine (Bc.out X).mono ?_
      rintro e X2 ⟨rfl, rfl⟩
      exact ⟨rfl, h3⟩
    simp only [Act.put, List.setIfInBounds_toArray, List.set_cons_succ, List.set_cons_zero]
    (repeat (refine sets_quiet (fun w' => ∃ u, w' = V u) hU.out rfl (fun _ _ _ h => h) rfl ?_; intro K hK; go_big_quiet_op; first | go_big_quiet_on | (refine ⟨_, fun _ => rfl, ?_⟩; go_big_quiet_on)))
    refine sets_store rfl 28 _ _ rfl rfl ⟨w1.heap.size + 1, 0, none⟩ rfl (.int .u32 (b : Nat)) rfl rfl (by kernel_rfl) ?_ ?_
    · rintro S X h1 h2 ⟨i1, i2, i3, i4⟩
      exact ⟨⟨_, i2.cell 0⟩, i2.frozen 0, i1.other _ _ (by omega), i2.set 0 _, i3.other _ _ (by have := hw1.out; omega), i4.setCell (p := ⟨w1.heap.size + 1, 0, none⟩) (by show W.heap.size ≤ w1.heap.size + 1; have := hw1.out; omega) _⟩
    (repeat (refine sets_quiet (fun w' => ∃ u, w' = V u) hU.out rfl (fun _ _ _ h => h) rfl ?_; intro K hK; go_big_quiet_op; first | go_big_quiet_on | (refine ⟨_, fun _ => rfl, ?_⟩; go_big_quiet_on)))
    refine sets_store rfl 28 _ _ rfl rfl ⟨w1.heap.size + 1, 1, none⟩ rfl (.int .u32 (c : Nat)) rfl rfl (by kernel_rfl) ?_ ?_
    · rintro S X h1 h2 ⟨i1, i2, i3, i4⟩
      exact ⟨⟨_, i2.cell 1⟩, i2.frozen 1, i1.other _ _ (by omega), i2.set 1 _, i3.other _ _ (by have := hw1.out; omega), i4.setCell (p := ⟨w1.heap.size + 1, 1, none⟩) (by show W.heap.size ≤ w1.heap.size + 1; have := hw1.out; omega) _⟩
    rintro S X hS ⟨i1, i2, i3, i4⟩
    rw [show S 9 = true from hS 9 (by decide), show S 11 = true from hS 11 (by decide)] at i2
    simp only [cond_true] at i2
    replace i1 := Lib.hid i1
    replace i4 := Lib.hid i4
    clear hU hV kb kc
    go_wp2_with (first
      | (refine wpList_load_blk rfl _ _ rfl _ rfl _ _ _ i2 Try.underlying68 rfl (by kernel_rfl) ?_)
      | (refine wpList_store_blk rfl _ _ _ rfl _ _ rfl rfl _ _ i3 (by kernel_rfl) rfl (by simp [Value.oneCell']) ?_))
    exact bodyPost_ret (results_cell_tmp rfl _ _ W.heap.size _ _ _ rfl (i3.row _) Try.underlying68 rfl (by kernel_rfl)) rfl ⟨by simp only [Option.map_some, Option.getD_some, HU4.out]; rfl, below_setRow i4.out (Nat.le_refl _) _⟩
end Go.Proofs.Yteelconabmfnkaa

/- decode.Uses at some Ops. -/
namespace Go.Proofs.Yteelconabmfnkaa
open Go Go.RowKit
set_option maxHeartbeats 4000000
set_option maxRecDepth 100000
set_option linter.unusedVariables false
set_option linter.unusedSimpArgs false
theorem uses_C (W : World) (w : Nat) (hw : w < 4294967296) (op form frm kind rd rs1 rs2 rs3 rm : Nat) (imm : Int) (csr : Nat) (hop : op = 26 ∨ op = 27 ∨ op = 28) (h1 : rd < 32) (h2 : rs1 < 32) (h3 : rs2 < 32) (h4 : rs3 < 32) (hd : DEC w = some ⟨op, form, frm, kind, rd, rs1, rs2, rs3, rm, imm, csr⟩) :
    Calls Try.prog 41 #[.int .u32 w] W (UsesP W w) := by
  have C1 : Hid (∀ X, Calls Try.prog 22 #[.int .u32 w] X fun e w' => e = .returned (.tuple #[.agg (instV ⟨op, form, frm, kind, rd, rs1, rs2, rs3, rm, imm, csr⟩), .int .i64 0]) ∧ Below X.heap.size X w') := Lib.hid fun X => by
    have := decode_c X w hw
    unfold DecP at this
    rw [hd] at this
    exact this
  unfold UsesP
  rw [hd]
  clear hd
  obtain ⟨b, hb⟩ : ∃ p, 2 ^ rs1 = p := ⟨_, rfl⟩
  have Bb := Lib.hid (fun X => bit_c X rs1 b h2 hb)
  have lb := pow_lt32 h2 hb
  obtain ⟨a, ha⟩ : ∃ p, 2 ^ rd = p := ⟨_, rfl⟩
  have Ba := Lib.hid (fun X => bit_c X rd a h1 ha)
  have la := pow_lt32 h1 ha
  have HU4 : Hid (USE ⟨op, form, frm, kind, rd, rs1, rs2, rs3, rm, imm, csr⟩ = ⟨b, 0, a, 0⟩) := Lib.hid (by
    unfold USE
    rcases hop with rfl | rfl | rfl
    all_goals (simp only []; rw [hb, ha]; first | rfl | (simp; done)))
  have z1 : ((op : Int) == 1) = false := by rw [beq_eq_false_iff_ne]; omega
  have z22 : ((op : Int) == 22) = false := by rw [beq_eq_false_iff_ne]; omega
  have z25 : ((op : Int) == 25) = false := by rw [beq_eq_false_iff_ne]; omega
  have z2 : ((op : Int) == 2) = false := by rw [beq_eq_false_iff_ne]; omega
  have hz : (((op : Int) == 26) = true) ∨ (((op : Int) == 26) = false ∧ ((op : Int) == 27) = true) ∨ (((op : Int) == 26) = false ∧ ((op : Int) == 27) = false ∧ ((op : Int) == 28) = true) := by rcases hop with rfl | rfl | rfl <;> simp
  rcases hz with y26 | ⟨y26, y27⟩ | ⟨y26, y27, y28⟩
  clear hop
  all_goals
    clear hb ha
    go_enter Try.func41, Try.ntmps41
    have k0 := Blk.new W (useV zeroU) 68
    go_wp2_with (first
      | (go_at_call 22; (with_reducible refine (C1.out _).mono ?_); rintro e w1 ⟨rfl, hb⟩))
    have kI := (Blk.new w1 (instV ⟨op, form, frm, kind, rd, rs1, rs2, rs3, rm, imm, csr⟩) 27).alloc (.cells (useV zeroU) 68)
    have kU := Blk.new (w1.alloc (.cells (instV ⟨op, form, frm, kind, rd, rs1, rs2, rs3, rm, imm, csr⟩) 27)) (useV zeroU) 68
    have kZ := ((k0.below hb (by simp)).alloc (.cells (instV ⟨op, form, frm, kind, rd, rs1, rs2, rs3, rm, imm, csr⟩) 27)).alloc (.cells (useV zeroU) 68)
    have hw1 : W.heap.size + 1 ≤ w1.heap.size := by have := hb.size; simpa using this
    have kB := ((((Below.refl W.heap.size W).alloc (Nat.le_refl _) (.cells (useV zeroU) 68)).trans (hb.mono (by simp))).alloc (by omega) (.cells (instV ⟨op, form, frm, kind, rd, rs1, rs2, rs3, rm, imm, csr⟩) 27)).alloc (by simp; omega) (.cells (useV zeroU) 68)
    rw [World.size_alloc] at kU
    obtain ⟨Wn, hWn⟩ : ∃ Wn, (w1.alloc (.cells (instV ⟨op, form, frm, kind, rd, rs1, rs2, rs3, rm, imm, csr⟩) 27)).alloc (.cells (useV zeroU) 68) = Wn := ⟨_, rfl⟩
    show Code.wp _ _ _ _ ((w1.alloc (.cells (instV ⟨op, form, frm, kind, rd, rs1, rs2, rs3, rm, imm, csr⟩) 27)).alloc (.cells (useV zeroU) 68))
    rw [hWn] at kI kU kZ kB ⊢
    clear hWn hb k0 C1
    replace hw1 := Lib.hid hw1
    refine wp_region_sets_lit (fun S X => Blk X w1.heap.size (instV ⟨op, form, frm, kind, rd, rs1, rs2, rs3, rm, imm, csr⟩) 27 ∧ Blk X (w1.heap.size + 1) #[.int .u32 ((bif S 9 then b else 0 : Nat) : Nat), .int .u32 ((0 : Nat) : Nat), .int .u32 ((bif S 11 then a else 0 : Nat) : Nat), .int .u32 ((0 : Nat) : Nat)] 68 ∧ Blk X W.heap.size (useV zeroU) 68 ∧ Below W.heap.size W X) (by kernel_rfl) (by kernel_rfl) ⟨kI, kU, kZ, kB.drew⟩ ?_
    obtain ⟨U, V, hV, hU⟩ := worlds (fun S X => Blk X w1.heap.size (instV ⟨op, form, frm, kind, rd, rs1, rs2, rs3, rm, imm, csr⟩) 27 ∧ Blk X (w1.heap.size + 1) #[.int .u32 ((bif S 9 then b else 0 : Nat) : Nat), .int .u32 ((0 : Nat) : Nat), .int .u32 ((bif S 11 then a else 0 : Nat) : Nat), .int .u32 ((0 : Nat) : Nat)] 68 ∧ Blk X W.heap.size (useV zeroU) 68 ∧ Below W.heap.size W X)
    have kb : ∀ u, (V u).cell? ⟨w1.heap.size, 5, none⟩ = some (.int .u8 (rs1 : Nat)) := fun u => by obtain ⟨S, h, _⟩ := hV u; exact h.cell 5
    have ka : ∀ u, (V u).cell? ⟨w1.heap.size, 4, none⟩ = some (.int .u8 (rd : Nat)) := fun u => by obtain ⟨S, h, _⟩ := hV u; exact h.cell 4
    replace hV := Lib.hid hV
    replace hU := Lib.hid hU
    clear kI kU kZ kB
    (repeat (refine sets_quiet (fun w' => ∃ u, w' = V u) hU.out rfl (fun _ _ _ h => h) rfl ?_; intro K hK; go_big_quiet_op; first | go_big_quiet_on | (refine ⟨_, fun _ => rfl, ?_⟩; go_big_quiet_on)))
    refine sets_callv (.int .u32 (b : Nat)) rfl _ 68 [] [] [_] _ rfl rfl Try.f68 Try.func68 (by kernel_rfl) (by kernel_rfl) [_] rfl (fun S X h1 h2 h3 => ?_) ?_
    · refine (Bb.out X).mono ?_
      rintro e X2 ⟨rfl, rfl⟩
      exact ⟨rfl, h3⟩
    simp only [Act.put, List.setIfInBounds_toArray, List.set_cons_succ, List.set_cons_zero]
    (repeat (refine sets_quiet (fun w' => ∃ u, w' = V u) hU.out rfl (fun _ _ _ h => h) rfl ?_; intro K hK; go_big_quiet_op; first | go_big_quiet_on | (refine ⟨_, fun _ => rfl, ?_⟩; go_big_quiet_on)))
    refine sets_callv (.int .u32 (a : Nat)) rfl _ 68 [] [] [_] _ rfl rfl Try.f68 Try.func68 (by kernel_rfl) (by kernel_rfl) [_] rfl (fun S X h1 h2 h3 => ?_) ?_
    · refine (Ba.out X).mono ?_
      rintro e X2 ⟨rfl, rfl⟩
      exact ⟨rfl, h3⟩
    simp only [Act.put, List.setIfInBounds_toArray, List.set_cons_succ, List.set_cons_zero]
    (repeat (refine sets_quiet (fun w' => ∃ u, w' = V u) hU.out rfl (fun _ _ _ h => h) rfl ?_; intro K hK; go_big_quiet_op; first | go_big_quiet_on | (refine ⟨_, fun _ => rfl, ?_⟩; go_big_quiet_on)))
    refine sets_store rfl 28 _ _ rfl rfl ⟨w1.heap.size + 1, 0, none⟩ rfl (.int .u32 (b : Nat)) rfl rfl (by kernel_rfl) ?_ ?_
    · rintro S X h1 h2 ⟨i1, i2, i3, i4⟩
      exact ⟨⟨_, i2.cell 0⟩, i2.frozen 0, i1.other _ _ (by omega), i2.set 0 _, i3.other _ _ (by have := hw1.out; omega), i4.setCell (p := ⟨w1.heap.size + 1, 0, none⟩) (by show W.heap.size ≤ w1.heap.size + 1; have := hw1.out; omega) _⟩
    (repeat (refine sets_quiet (fun w' => ∃ u, w' = V u) hU.out rfl (fun _ _ _ h => h) rfl ?_; intro K hK; go_big_quiet_op; first | go_big_quiet_on | (refine ⟨_, fun _ => rfl, ?_⟩; go_big_quiet_on)))
    refine sets_store rfl 28 _ _ rfl rfl ⟨w1.heap.size + 1, 2, none⟩ rfl (.int .u32 (a : Nat)) rfl rfl (by kernel_rfl) ?_ ?_
    · rintro S X h1 h2 ⟨i1, i2, i3, i4⟩
      exact ⟨⟨_, i2.cell 2⟩, i2.frozen 2, i1.other _ _ (by omega), i2.set 2 _, i3.other _ _ (by have := hw1.out; omega), i4.setCell (p := ⟨w1.heap.size + 1, 2, none⟩) (by show W.heap.size ≤ w1.heap.size + 1; have := hw1.out; omega) _⟩
    rintro S X hS ⟨i1, i2, i3, i4⟩
    rw [show S 9 = true from hS 9 (by decide), show S 11 = true from hS 11 (by decide)] at i2
    simp only [cond_true] at i2
    replace i1 := Lib.hid i1
    replace i4 := Lib.hid i4
    clear hU hV kb ka
    go_wp2_with (first
      | (refine wpList_load_blk rfl _ _ rfl _ rfl _ _ _ i2 Try.underlying68 rfl (by kernel_rfl) ?_)
      | (refine wpList_store_blk rfl _ _ _ rfl _ _ rfl rfl _ _ i3 (by kernel_rfl) rfl (by simp [Value.oneCell']) ?_))
    exact bodyPost_ret (results_cell_tmp rfl _ _ W.heap.size _ _ _ rfl (i3.row _) Try.underlying68 rfl (by kernel_rfl)) rfl ⟨by simp only [Option.map_some, Option.getD_some, HU4.out]; rfl, below_setRow i4.out (Nat.le_refl _) _⟩
theorem uses_D (W : World) (w : Nat) (hw : w < 4294967296) (op form frm kind rd rs1 rs2 rs3 rm : Nat) (imm : Int) (csr : Nat) (hop : op = 29 ∨ op = 30 ∨ op = 31) (h1 : rd < 32) (h2 : rs1 < 32) (h3 : rs2 < 32) (h4 : rs3 < 32) (hd : DEC w = some ⟨op, form, frm, kind, rd, rs1, rs2, rs3, rm, imm, csr⟩) :
    Calls Try.prog 41 #[.int .u32 w] W (UsesP W w) := by
  have C1 : Hid (∀ X, Calls Try.prog 22 #[.int .u32 w] X fun e w' => e = .returned (.tuple #[.agg (instV ⟨op, form, frm, kind, rd, rs1, rs2, rs3, rm, imm, csr⟩), .int .i64 0]) ∧ Below X.heap.size X w') := Lib.hid fun X => by
    have := decode_c X w hw
    unfold DecP at this
    rw [hd] at this
    exact this
  unfold UsesP
  rw [hd]
  clear hd
  obtain ⟨a, ha⟩ : ∃ p, 2 ^ rd = p := ⟨_, rfl⟩
  have Ba := Lib.hid (fun X => bit_c X rd a h1 ha)
  have la := pow_lt32 h1 ha
  have HU4 : Hid (USE ⟨op, form, frm, kind, rd, rs1, rs2, rs3, rm, imm, csr⟩ = ⟨0, 0, a, 0⟩) := Lib.hid (by
    unfold USE
    rcases hop with rfl | rfl | rfl
    all_goals (simp only []; rw [ha]; first | rfl | (simp; done)))
  have z1 : ((op : Int) == 1) = false := by rw [beq_eq_false_iff_ne]; omega
  have z22 : ((op : Int) == 22) = false := by rw [beq_eq_false_iff_ne]; omega
  have z25 : ((op : Int) == 25) = false := by rw [beq_eq_false_iff_ne]; omega
  have z2 : ((op : Int) == 2) = false := by rw [beq_eq_false_iff_ne]; omega
  have z26 : ((op : Int) == 26) = false := by rw [beq_eq_false_iff_ne]; omega
  have z27 : ((op : Int) == 27) = false := by rw [beq_eq_false_iff_ne]; omega
  have z28 : ((op : Int) == 28) = false := by rw [beq_eq_false_iff_ne]; omega
  have hz : (((op : Int) == 29) = true) ∨ (((op : Int) == 29) = false ∧ ((op : Int) == 30) = true) ∨ (((op : Int) == 29) = false ∧ ((op : Int) == 30) = false ∧ ((op : Int) == 31) = true) := by rcases hop with rfl | rfl | rfl <;> simp
  rcases hz with y29 | ⟨y29, y30⟩ | ⟨y29, y30, y31⟩
  clear hop
  all_goals
    clear ha
    go_enter Try.func41, Try.ntmps41
    have k0 := Blk.new W (useV zeroU) 68
    go_wp2_with (first
      | (go_at_call 22; (with_reducible refine (C1.out _).mono ?_); rintro e w1 ⟨rfl, hb⟩)
      | (go_at_call 68; (with_reducible refine (Ba.out _).mono ?_); rintro e w2 ⟨rfl, rfl⟩)
      | (refine wpList_store_blk rfl _ _ _ rfl _ _ rfl rfl _ _ (((k0.below hb (by simp)).alloc _).alloc _) (by kernel_rfl) rfl (by simp [Value.oneCell']) ?_))
    have kz := (((k0.below hb (by simp)).alloc (.cells (instV ⟨op, form, frm, kind, rd, rs1, rs2, rs3, rm, imm, csr⟩) 27)).alloc (.cells (useV ⟨0, 0, a, 0⟩) 68)).row (useV ⟨0, 0, a, 0⟩)
    have hw1 : W.heap.size + 1 ≤ w1.heap.size := by have := hb.size; simpa using this
    have kB := ((((Below.refl W.heap.size W).alloc (Nat.le_refl _) (.cells (useV zeroU) 68)).trans (hb.mono (by simp))).alloc (by omega) (.cells (instV ⟨op, form, frm, kind, rd, rs1, rs2, rs3, rm, imm, csr⟩) 27)).alloc (by simp; omega) (.cells (useV ⟨0, 0, a, 0⟩) 68)
    exact bodyPost_ret (results_cell_tmp rfl _ _ W.heap.size _ _ _ rfl kz Try.underlying68 rfl (by kernel_rfl)) rfl ⟨by simp only [Option.map_some, Option.getD_some, HU4.out]; rfl, below_setRow kB (Nat.le_refl _) _⟩
theorem uses_E (W : World) (w : Nat) (hw : w < 4294967296) (op form frm kind rd rs1 rs2 rs3 rm : Nat) (imm : Int) (csr : Nat) (hop : op = 21 ∨ op = 23 ∨ op = 24) (h1 : rd < 32) (h2 : rs1 < 32) (h3 : rs2 < 32) (h4 : rs3 < 32) (hd : DEC w = some ⟨op, form, frm, kind, rd, rs1, rs2, rs3, rm, imm, csr⟩) :
    Calls Try.prog 41 #[.int .u32 w] W (UsesP W w) := by
  have C1 : Hid (∀ X, Calls Try.prog 22 #[.int .u32 w] X fun e w' => e = .returned (.tuple #[.agg (instV ⟨op, form, frm, kind, rd, rs1, rs2, rs3, rm, imm, csr⟩), .int .i64 0]) ∧ Below X.heap.size X w') := Lib.hid fun X => by
    have := decode_c X w hw
    unfold DecP at this
    rw [hd] at this
    exact this
  unfold UsesP
  rw [hd]
  clear hd
  obtain ⟨b, hb⟩ : ∃ p, 2 ^ rs1 = p := ⟨_, rfl⟩
  have Bb := Lib.hid (fun X => bit_c X rs1 b h2 hb)
  have lb := pow_lt32 h2 hb
  obtain ⟨a, ha⟩ : ∃ p, 2 ^ rd = p := ⟨_, rfl⟩
  have Ba := Lib.hid (fun X => bit_c X rd a h1 ha)
  have la := pow_lt32 h1 ha
  have HU4 : Hid (USE ⟨op, form, frm, kind, rd, rs1, rs2, rs3, rm, imm, csr⟩ = ⟨0, b, a, 0⟩) := Lib.hid (by
    unfold USE
    rcases hop with rfl | rfl | rfl
    all_goals (simp only []; rw [hb, ha]; first | rfl | (simp; done)))
  have z1 : ((op : Int) == 1) = false := by rw [beq_eq_false_iff_ne]; omega
  have z22 : ((op : Int) == 22) = false := by rw [beq_eq_false_iff_ne]; omega
  have z25 : ((op : Int) == 25) = false := by rw [beq_eq_false_iff_ne]; omega
  have z2 : ((op : Int) == 2) = false := by rw [beq_eq_false_iff_ne]; omega
  have z26 : ((op : Int) == 26) = false := by rw [beq_eq_false_iff_ne]; omega
  have z27 : ((op : Int) == 27) = false := by rw [beq_eq_false_iff_ne]; omega
  have z28 : ((op : Int) == 28) = false := by rw [beq_eq_false_iff_ne]; omega
  have z29 : ((op : Int) == 29) = false := by rw [beq_eq_false_iff_ne]; omega
  have z30 : ((op : Int) == 30) = false := by rw [beq_eq_false_iff_ne]; omega
  have z31 : ((op : Int) == 31) = false := by rw [beq_eq_false_iff_ne]; omega
  have hz : (((op : Int) == 21) = true) ∨ (((op : Int) == 21) = false ∧ ((op : Int) == 23) = true) ∨ (((op : Int) == 21) = false ∧ ((op : Int) == 23) = false ∧ ((op : Int) == 24) = true) := by rcases hop with rfl | rfl | rfl <;> simp
  rcases hz with y21 | ⟨y21, y23⟩ | ⟨y21, y23, y24⟩
  clear hop
  all_goals
    clear hb ha
    go_enter Try.func41, Try.ntmps41
    have k0 := Blk.new W (useV zeroU) 68
    go_wp2_with (first
      | (go_at_call 22; (with_reducible refine (C1.out _).mono ?_); rintro e w1 ⟨rfl, hb⟩))
    have kI := (Blk.new w1 (instV ⟨op, form, frm, kind, rd, rs1, rs2, rs3, rm, imm, csr⟩) 27).alloc (.cells (useV zeroU) 68)
    have kU := Blk.new (w1.alloc (.cells (instV ⟨op, form, frm, kind, rd, rs1, rs2, rs3, rm, imm, csr⟩) 27)) (useV zeroU) 68
    have kZ := ((k0.below hb (by simp)).alloc (.cells (instV ⟨op, form, frm, kind, rd, rs1, rs2, rs3, rm, imm, csr⟩) 27)).alloc (.cells (useV zeroU) 68)
    have hw1 : W.heap.size + 1 ≤ w1.heap.size := by have := hb.size; simpa using this
    have kB := ((((Below.refl W.heap.size W).alloc (Nat.le_refl _) (.cells (useV zeroU) 68)).trans (hb.mono (by simp))).alloc (by omega) (.cells (instV ⟨op, form, frm, kind, rd, rs1, rs2, rs3, rm, imm, csr⟩) 27)).alloc (by simp; omega) (.cells (useV zeroU) 68)
    rw [World.size_alloc] at kU
    obtain ⟨Wn, hWn⟩ : ∃ Wn, (w1.alloc (.cells (instV ⟨op, form, frm, kind, rd, rs1, rs2, rs3, rm, imm, csr⟩) 27)).alloc (.cells (useV zeroU) 68) = Wn := ⟨_, rfl⟩
    show Code.wp _ _ _ _ ((w1.alloc (.cells (instV ⟨op, form, frm, kind, rd, rs1, rs2, rs3, rm, imm, csr⟩) 27)).alloc (.cells (useV zeroU) 68))
    rw [hWn] at kI kU kZ kB ⊢
    clear hWn hb k0 C1
    replace hw1 := Lib.hid hw1
    refine wp_region_sets_lit (fun S X => Blk X w1.heap.size (instV ⟨op, form, frm, kind, rd, rs1, rs2, rs3, rm, imm, csr⟩) 27 ∧ Blk X (w1.heap.size + 1) #[.int .u32 ((0 : Nat) : Nat), .int .u32 ((bif S 9 then b else 0 : Nat) : Nat), .int .u32 ((bif S 11 then a else 0 : Nat) : Nat), .int .u32 ((0 : Nat) : Nat)] 68 ∧ Blk X W.heap.size (useV zeroU) 68 ∧ Below W.heap.size W X) (by kernel_rfl) (by kernel_rfl) ⟨kI, kU, kZ, kB.drew⟩ ?_
    obtain ⟨U, V, hV, hU⟩ := worlds (fun S X => Blk X w1.heap.size (instV ⟨op, form, frm, kind, rd, rs1, rs2, rs3, rm, imm, csr⟩) 27 ∧ Blk X (w1.heap.size + 1) #[.int .u32 ((0 : Nat) : Nat), .int .u32 ((bif S 9 then b else 0 : Nat) : Nat), .int .u32 ((bif S 11 then a else 0 : Nat) : Nat), .int .u32 ((0 : Nat) : Nat)] 68 ∧ Blk X W.heap.size (useV zeroU) 68 ∧ Below W.heap.size W X)
    have kb : ∀ u, (V u).cell? ⟨w1.heap.size, 5, none⟩ = some (.int .u8 (rs1 : Nat)) := fun u => by obtain ⟨S, h, _⟩ := hV u; exact h.cell 5
    have ka : ∀ u, (V u).cell? ⟨w1.heap.size, 4, none⟩ = some (.int .u8 (rd : Nat)) := fun u => by obtain ⟨S, h, _⟩ := hV u; exact h.cell 4
    replace hV := Lib.hid hV
    replace hU := Lib.hid hU
    clear kI kU kZ kB
    (repeat (refine sets_quiet (fun w' => ∃ u, w' = V u) hU.out rfl (fun _ _ _ h => h) rfl ?_; intro K hK; go_big_quiet_op; first | go_big_quiet_on | (refine ⟨_, fun _ => rfl, ?_⟩; go_big_quiet_on)))
    refine sets_callv (.int .u32 (b : Nat)) rfl _ 68 [] [] [_] _ rfl rfl Try.f68 Try.func68 (by kernel_rfl) (by kernel_rfl) [_] rfl (fun S X h1 h2 h3 => ?_) ?_
    · refine (Bb.out X).mono ?_
      rintro e X2 ⟨rfl, rfl⟩
      exact ⟨rfl, h3⟩
    simp only [Act.put, List.setIfInBounds_toArray, List.set_cons_succ, List.set_cons_zero]
    (repeat (refine sets_quiet (fun w' => ∃ u, w' = V u) hU.out rfl (fun _ _ _ h => h) rfl ?_; intro K hK; go_big_quiet_op; first | go_big_quiet_on | (refine ⟨_, fun _ => rfl, ?_⟩; go_big_quiet_on)))
    refine sets_callv (.int .u32 (a : Nat)) rfl _ 68 [] [] [_] _ rfl rfl Try.f68 Try.func68 (by kernel_rfl) (by kernel_rfl) [_] rfl (fun S X h1 h2 h3 => ?_) ?_
    · refine (Ba.out X).mono ?_
      rintro e X2 ⟨rfl, rfl⟩
      exact ⟨rfl, h3⟩
    simp only [Act.put, List.setIfInBounds_toArray, List.set_cons_succ, List.set_cons_zero]
    (repeat (refine sets_quiet (fun w' => ∃ u, w' = V u) hU.out rfl (fun _ _ _ h => h) rfl ?_; intro K hK; go_big_quiet_op; first | go_big_quiet_on | (refine ⟨_, fun _ => rfl, ?_⟩; go_big_quiet_on)))
    refine sets_store rfl 28 _ _ rfl rfl ⟨w1.heap.size + 1, 1, none⟩ rfl (.int .u32 (b : Nat)) rfl rfl (by kernel_rfl) ?_ ?_
    · rintro S X h1 h2 ⟨i1, i2, i3, i4⟩
      exact ⟨⟨_, i2.cell 1⟩, i2.frozen 1, i1.other _ _ (by omega), i2.set 1 _, i3.other _ _ (by have := hw1.out; omega), i4.setCell (p := ⟨w1.heap.size + 1, 1, none⟩) (by show W.heap.size ≤ w1.heap.size + 1; have := hw1.out; omega) _⟩
    (repeat (refine sets_quiet (fun w' => ∃ u, w' = V u) hU.out rfl (fun _ _ _ h => h) rfl ?_; intro K hK; go_big_quiet_op; first | go_big_quiet_on | (refine ⟨_, fun _ => rfl, ?_⟩; go_big_quiet_on)))
    refine sets_store rfl 28 _ _ rfl rfl ⟨w1.heap.size + 1, 2, none⟩ rfl (.int .u32 (a : Nat)) rfl rfl (by kernel_rfl) ?_ ?_
    · rintro S X h1 h2 ⟨i1, i2, i3, i4⟩
      exact ⟨⟨_, i2.cell 2⟩, i2.frozen 2, i1.other _ _ (by omega), i2.set 2 _, i3.other _ _ (by have := hw1.out; omega), i4.setCell (p := ⟨w1.heap.size + 1, 2, none⟩) (by show W.heap.size ≤ w1.heap.size + 1; have := hw1.out; omega) _⟩
    rintro S X hS ⟨i1, i2, i3, i4⟩
    rw [show S 9 = true from hS 9 (by decide), show S 11 = true from hS 11 (by decide)] at i2
    simp only [cond_true] at i2
    replace i1 := Lib.hid i1
    replace i4 := Lib.hid i4
    clear hU hV kb ka
    go_wp2_with (first
      | (refine wpList_load_blk rfl _ _ rfl _ rfl _ _ _ i2 Try.underlying68 rfl (by kernel_rfl) ?_)
      | (refine wpList_store_blk rfl _ _ _ rfl _ _ rfl rfl _ _ i3 (by kernel_rfl) rfl (by simp [Value.oneCell']) ?_))
    exact bodyPost_ret (results_cell_tmp rfl _ _ W.heap.size _ _ _ rfl (i3.row _) Try.underlying68 rfl (by kernel_rfl)) rfl ⟨by simp only [Option.map_some, Option.getD_some, HU4.out]; rfl, below_setRow i4.out (Nat.le_refl _) _⟩
end Go.Proofs.Yteelconabmfnkaa

/- decode.Uses at some Ops. -/
namespace Go.Proofs.Yteelconabmfnkaa
open Go Go.RowKit
set_option maxHeartbeats 4000000
set_option maxRecDepth 100000
set_option linter.unusedVariables false
set_option linter.unusedSimpArgs false
theorem uses_F (W : World) (w : Nat) (hw : w < 4294967296) (op form frm kind rd rs1 rs2 rs3 rm : Nat) (imm : Int) (csr : Nat) (hop : op = 18 ∨ op = 19 ∨ op = 20) (h1 : rd < 32) (h2 : rs1 < 32) (h3 : rs2 < 32) (h4 : rs3 < 32) (hd : DEC w = some ⟨op, form, frm, kind, rd, rs1, rs2, rs3, rm, imm, csr⟩) :
    Calls Try.prog 41 #[.int .u32 w] W (UsesP W w) := by
  have C1 : Hid (∀ X, Calls Try.prog 22 #[.int .u32 w] X fun e w' => e = .returned (.tuple #[.agg (instV ⟨op, form, frm, kind, rd, rs1, rs2, rs3, rm, imm, csr⟩), .int .i64 0]) ∧ Below X.heap.size X w') := Lib.hid fun X => by
    have := decode_c X w hw
    unfold DecP at this
    rw [hd] at this
    exact this
  unfold UsesP
  rw [hd]
  clear hd
  obtain ⟨b, hb⟩ : ∃ p, 2 ^ rs1 = p := ⟨_, rfl⟩
  have Bb := Lib.hid (fun X => bit_c X rs1 b h2 hb)
  have lb := pow_lt32 h2 hb
  obtain ⟨c, hc⟩ : ∃ p, 2 ^ rs2 = p := ⟨_, rfl⟩
  have Bc := Lib.hid (fun X => bit_c X rs2 c h3 hc)
  have lc := pow_lt32 h3 hc
  obtain ⟨a, ha⟩ : ∃ p, 2 ^ rd = p := ⟨_, rfl⟩
  have Ba := Lib.hid (fun X => bit_c X rd a h1 ha)
  have la := pow_lt32 h1 ha
  obtain ⟨bc, hbc⟩ : ∃ p, b ||| c = p := ⟨_, rfl⟩
  have ebc : bits .or .u32 (b : Int) (c : Int) = ((bc : Nat) : Int) := by rw [← hbc]; exact or32 b c lb lc
  have HU4 : Hid (USE ⟨op, form, frm, kind, rd, rs1, rs2, rs3, rm, imm, csr⟩ = ⟨0, bc, a, 0⟩) := Lib.hid (by
    unfold USE
    rcases hop with rfl | rfl | rfl
    all_goals (simp only []; rw [hb, hc, ha, hbc]; first | rfl | (simp; done)))
  have z1 : ((op : Int) == 1) = false := by rw [beq_eq_false_iff_ne]; omega
  have z22 : ((op : Int) == 22) = false := by rw [beq_eq_false_iff_ne]; omega
  have z25 : ((op : Int) == 25) = false := by rw [beq_eq_false_iff_ne]; omega
  have z2 : ((op : Int) == 2) = false := by rw [beq_eq_false_iff_ne]; omega
  have z26 : ((op : Int) == 26) = false := by rw [beq_eq_false_iff_ne]; omega
  have z27 : ((op : Int) == 27) = false := by rw [beq_eq_false_iff_ne]; omega
  have z28 : ((op : Int) == 28) = false := by rw [beq_eq_false_iff_ne]; omega
  have z29 : ((op : Int) == 29) = false := by rw [beq_eq_false_iff_ne]; omega
  have z30 : ((op : Int) == 30) = false := by rw [beq_eq_false_iff_ne]; omega
  have z31 : ((op : Int) == 31) = false := by rw [beq_eq_false_iff_ne]; omega
  have z21 : ((op : Int) == 21) = false := by rw [beq_eq_false_iff_ne]; omega
  have z23 : ((op : Int) == 23) = false := by rw [beq_eq_false_iff_ne]; omega
  have z24 : ((op : Int) == 24) = false := by rw [beq_eq_false_iff_ne]; omega
  have hz : (((op : Int) == 18) = true) ∨ (((op : Int) == 18) = false ∧ ((op : Int) == 19) = true) ∨ (((op : Int) == 18) = false ∧ ((op : Int) == 19) = false ∧ ((op : Int) == 20) = true) := by rcases hop with rfl | rfl | rfl <;> simp
  rcases hz with y18 | ⟨y18, y19⟩ | ⟨y18, y19, y20⟩
  clear hop
  all_goals
    clear hb hc ha
    go_enter Try.func41, Try.ntmps41
    have k0 := Blk.new W (useV zeroU) 68
    go_wp2_with (first
      | (go_at_call 22; (with_reducible refine (C1.out _).mono ?_); rintro e w1 ⟨rfl, hb⟩))
    have kI := (Blk.new w1 (instV ⟨op, form, frm, kind, rd, rs1, rs2, rs3, rm, imm, csr⟩) 27).alloc (.cells (useV zeroU) 68)
    have kU := Blk.new (w1.alloc (.cells (instV ⟨op, form, frm, kind, rd, rs1, rs2, rs3, rm, imm, csr⟩) 27)) (useV zeroU) 68
    have kZ := ((k0.below hb (by simp)).alloc (.cells (instV ⟨op, form, frm, kind, rd, rs1, rs2, rs3, rm, imm, csr⟩) 27)).alloc (.cells (useV zeroU) 68)
    have hw1 : W.heap.size + 1 ≤ w1.heap.size := by have := hb.size; simpa using this
    have kB := ((((Below.refl W.heap.size W).alloc (Nat.le_refl _) (.cells (useV zeroU) 68)).trans (hb.mono (by simp))).alloc (by omega) (.cells (instV ⟨op, form, frm, kind, rd, rs1, rs2, rs3, rm, imm, csr⟩) 27)).alloc (by simp; omega) (.cells (useV zeroU) 68)
    rw [World.size_alloc] at kU
    obtain ⟨Wn, hWn⟩ : ∃ Wn, (w1.alloc (.cells (instV ⟨op, form, frm, kind, rd, rs1, rs2, rs3, rm, imm, csr⟩) 27)).alloc (.cells (useV zeroU) 68) = Wn := ⟨_, rfl⟩
    show Code.wp _ _ _ _ ((w1.alloc (.cells (instV ⟨op, form, frm, kind, rd, rs1, rs2, rs3, rm, imm, csr⟩) 27)).alloc (.cells (useV zeroU) 68))
    rw [hWn] at kI kU kZ kB ⊢
    clear hWn hb k0 C1
    replace hw1 := Lib.hid hw1
    refine wp_region_sets_lit (fun S X => Blk X w1.heap.size (instV ⟨op, form, frm, kind, rd, rs1, rs2, rs3, rm, imm, csr⟩) 27 ∧ Blk X (w1.heap.size + 1) #[.int .u32 ((0 : Nat) : Nat), .int .u32 ((bif S 14 then bc else 0 : Nat) : Nat), .int .u32 ((bif S 16 then a else 0 : Nat) : Nat), .int .u32 ((0 : Nat) : Nat)] 68 ∧ Blk X W.heap.size (useV zeroU) 68 ∧ Below W.heap.size W X) (by kernel_rfl) (by kernel_rfl) ⟨kI, kU, kZ, kB.drew⟩ ?_
    obtain ⟨U, V, hV, hU⟩ := worlds (fun S X => Blk X w1.heap.size (instV ⟨op, form, frm, kind, rd, rs1, rs2, rs3, rm, imm, csr⟩) 27 ∧ Blk X (w1.heap.size + 1) #[.int .u32 ((0 : Nat) : Nat), .int .u32 ((bif S 14 then bc else 0 : Nat) : Nat), .int .u32 ((bif S 16 then a else 0 : Nat) : Nat), .int .u32 ((0 : Nat) : Nat)] 68 ∧ Blk X W.heap.size (useV zeroU) 68 ∧ Below W.heap.size W X)
    have kb : ∀ u, (V u).cell? ⟨w1.heap.size, 5, none⟩ = some (.int .u8 (rs1 : Nat)) := fun u => by obtain ⟨S, h, _⟩ := hV u; exact h.cell 5
    have kc : ∀ u, (V u).cell? ⟨w1.heap.size, 6, none⟩ = some (.int .u8 (rs2 : Nat)) := fun u => by obtain ⟨S, h, _⟩ := hV u; exact h.cell 6
    have ka : ∀ u, (V u).cell? ⟨w1.heap.size, 4, none⟩ = some (.int .u8 (rd : Nat)) := fun u => by obtain ⟨S, h, _⟩ := hV u; exact h.cell 4
    replace hV := Lib.hid hV
    replace hU := Lib.hid hU
    clear kI kU kZ kB
    (repeat (refine sets_quiet (fun w' => ∃ u, w' = V u) hU.out rfl (fun _ _ _ h => h) rfl ?_; intro K hK; go_big_quiet_op; first | go_big_quiet_on | (refine ⟨_, fun _ => rfl, ?_⟩; go_big_quiet_on)))
    refine sets_callv (.int .u32 (b : Nat)) rfl _ 68 [] [] [_] _ rfl rfl Try.f68 Try.func68 (by kernel_rfl) (by kernel_rfl) [_] rfl (fun S X h1 h2 h3 => ?_) ?_
    · refine (Bb.out X).mono ?_
      rintro e X2 ⟨rfl, rfl⟩
      exact ⟨rfl, h3⟩
    simp only [Act.put, List.setIfInBounds_toArray, List.set_cons_succ, List.set_cons_zero]
    (repeat (refine sets_quiet (fun w' => ∃ u, w' = V u) hU.out rfl (fun _ _ _ h => h) rfl ?_; intro K hK; go_big_quiet_op; first | go_big_quiet_on | (refine ⟨_, fun _ => rfl, ?_⟩; go_big_quiet_on)))
    refine sets_callv (.int .u32 (c : Nat)) rfl _ 68 [] [] [_] _ rfl rfl Try.f68 Try.func68 (by kernel_rfl) (by kernel_rfl) [_] rfl (fun S X h1 h2 h3 => ?_) ?_
    · refine (Bc.out X).mono ?_
      rintro e X2 ⟨rfl, rfl⟩
      exact ⟨rfl, h3⟩
    simp only [Act.put, List.setIfInBounds_toArray, List.set_cons_succ, List.set_cons_zero]
    (repeat (refine sets_quiet (fun w' => ∃ u, w' = V u) hU.out rfl (fun _ _ _ h => h) rfl ?_; intro K hK; go_big_quiet_op; first | go_big_quiet_on | (refine ⟨_, fun _ => rfl, ?_⟩; go_big_quiet_on)))
    refine sets_callv (.int .u32 (a : Nat)) rfl _ 68 [] [] [_] _ rfl rfl Try.f68 Try.func68 (by kernel_rfl) (by kernel_rfl) [_] rfl (fun S X h1 h2 h3 => ?_) ?_
    · refine (Ba.out X).mono ?_
      rintro e X2 ⟨rfl, rfl⟩
      exact ⟨rfl, h3⟩
    simp only [Act.put, List.setIfInBounds_toArray, List.set_cons_succ, List.set_cons_zero]
    (repeat (refine sets_quiet (fun w' => ∃ u, w' = V u) hU.out rfl (fun _ _ _ h => h) rfl ?_; intro K hK; go_big_quiet_op; first | go_big_quiet_on | (refine ⟨_, fun _ => rfl, ?_⟩; go_big_quiet_on)))
    refine sets_store rfl 28 _ _ rfl rfl ⟨w1.heap.size + 1, 1, none⟩ rfl (.int .u32 (bc : Nat)) rfl rfl (by kernel_rfl) ?_ ?_
    · rintro S X h1 h2 ⟨i1, i2, i3, i4⟩
      exact ⟨⟨_, i2.cell 1⟩, i2.frozen 1, i1.other _ _ (by omega), i2.set 1 _, i3.other _ _ (by have := hw1.out; omega), i4.setCell (p := ⟨w1.heap.size + 1, 1, none⟩) (by show W.heap.size ≤ w1.heap.size + 1; have := hw1.out; omega) _⟩
    (repeat (refine sets_quiet (fun w' => ∃ u, w' = V u) hU.out rfl (fun _ _ _ h => h) rfl ?_; intro K hK; go_big_quiet_op; first | go_big_quiet_on | (refine ⟨_, fun _ => rfl, ?_⟩; go_big_quiet_on)))
    refine sets_store rfl 28 _ _ rfl rfl ⟨w1.heap.size + 1, 2, none⟩ rfl (.int .u32 (a : Nat)) rfl rfl (by kernel_rfl) ?_ ?_
    · rintro S X h1 h2 ⟨i1, i2, i3, i4⟩
      exact ⟨⟨_, i2.cell 2⟩, i2.frozen 2, i1.other _ _ (by omega), i2.set 2 _, i3.other _ _ (by have := hw1.out; omega), i4.setCell (p := ⟨w1.heap.size + 1, 2, none⟩) (by show W.heap.size ≤ w1.heap.size + 1; have := hw1.out; omega) _⟩
    rintro S X hS ⟨i1, i2, i3, i4⟩
    rw [show S 14 = true from hS 14 (by decide), show S 16 = true from hS 16 (by decide)] at i2
    simp only [cond_true] at i2
    replace i1 := Lib.hid i1
    replace i4 := Lib.hid i4
    clear hU hV kb kc ka
    go_wp2_with (first
      | (refine wpList_load_blk rfl _ _ rfl _ rfl _ _ _ i2 Try.underlying68 rfl (by kernel_rfl) ?_)
      | (refine wpList_store_blk rfl _ _ _ rfl _ _ rfl rfl _ _ i3 (by kernel_rfl) rfl (by simp [Value.oneCell']) ?_))
    exact bodyPost_ret (results_cell_tmp rfl _ _ W.heap.size _ _ _ rfl (i3.row _) Try.underlying68 rfl (by kernel_rfl)) rfl ⟨by simp only [Option.map_some, Option.getD_some, HU4.out]; rfl, below_setRow i4.out (Nat.le_refl _) _⟩
theorem uses_G (W : World) (w : Nat) (hw : w < 4294967296) (op form frm kind rd rs1 rs2 rs3 rm : Nat) (imm : Int) (csr : Nat) (hop : op = 11 ∨ op = 17) (h1 : rd < 32) (h2 : rs1 < 32) (h3 : rs2 < 32) (h4 : rs3 < 32) (hd : DEC w = some ⟨op, form, frm, kind, rd, rs1, rs2, rs3, rm, imm, csr⟩) :
    Calls Try.prog 41 #[.int .u32 w] W (UsesP W w) := by
  have C1 : Hid (∀ X, Calls Try.prog 22 #[.int .u32 w] X fun e w' => e = .returned (.tuple #[.agg (instV ⟨op, form, frm, kind, rd, rs1, rs2, rs3, rm, imm, csr⟩), .int .i64 0]) ∧ Below X.heap.size X w') := Lib.hid fun X => by
    have := decode_c X w hw
    unfold DecP at this
    rw [hd] at this
    exact this
  unfold UsesP
  rw [hd]
  clear hd
  obtain ⟨b, hb⟩ : ∃ p, 2 ^ rs1 = p := ⟨_, rfl⟩
  have Bb := Lib.hid (fun X => bit_c X rs1 b h2 hb)
  have lb := pow_lt32 h2 hb
  obtain ⟨a, ha⟩ : ∃ p, 2 ^ rd = p := ⟨_, rfl⟩
  have Ba := Lib.hid (fun X => bit_c X rd a h1 ha)
  have la := pow_lt32 h1 ha
  have HU4 : Hid (USE ⟨op, form, frm, kind, rd, rs1, rs2, rs3, rm, imm, csr⟩ = ⟨0, b, 0, a⟩) := Lib.hid (by
    unfold USE
    rcases hop with rfl | rfl
    all_goals (simp only []; rw [hb, ha]; first | rfl | (simp; done)))
  have z1 : ((op : Int) == 1) = false := by rw [beq_eq_false_iff_ne]; omega
  have z22 : ((op : Int) == 22) = false := by rw [beq_eq_false_iff_ne]; omega
  have z25 : ((op : Int) == 25) = false := by rw [beq_eq_false_iff_ne]; omega
  have z2 : ((op : Int) == 2) = false := by rw [beq_eq_false_iff_ne]; omega
  have z26 : ((op : Int) == 26) = false := by rw [beq_eq_false_iff_ne]; omega
  have z27 : ((op : Int) == 27) = false := by rw [beq_eq_false_iff_ne]; omega
  have z28 : ((op : Int) == 28) = false := by rw [beq_eq_false_iff_ne]; omega
  have z29 : ((op : Int) == 29) = false := by rw [beq_eq_false_iff_ne]; omega
  have z30 : ((op : Int) == 30) = false := by rw [beq_eq_false_iff_ne]; omega
  have z31 : ((op : Int) == 31) = false := by rw [beq_eq_false_iff_ne]; omega
  have z21 : ((op : Int) == 21) = false := by rw [beq_eq_false_iff_ne]; omega
  have z23 : ((op : Int) == 23) = false := by rw [beq_eq_false_iff_ne]; omega
  have z24 : ((op : Int) == 24) = false := by rw [beq_eq_false_iff_ne]; omega
  have z18 : ((op : Int) == 18) = false := by rw [beq_eq_false_iff_ne]; omega
  have z19 : ((op : Int) == 19) = false := by rw [beq_eq_false_iff_ne]; omega
  have z20 : ((op : Int) == 20) = false := by rw [beq_eq_false_iff_ne]; omega
  have hz : (((op : Int) == 11) = true) ∨ (((op : Int) == 11) = false ∧ ((op : Int) == 17) = true) := by rcases hop with rfl | rfl <;> simp
  rcases hz with y11 | ⟨y11, y17⟩
  clear hop
  all_goals
    clear hb ha
    go_enter Try.func41, Try.ntmps41
    have k0 := Blk.new W (useV zeroU) 68
    go_wp2_with (first
      | (go_at_call 22; (with_reducible refine (C1.out _).mono ?_); rintro e w1 ⟨rfl, hb⟩))
    have kI := (Blk.new w1 (instV ⟨op, form, frm, kind, rd, rs1, rs2, rs3, rm, imm, csr⟩) 27).alloc (.cells (useV zeroU) 68)
    have kU := Blk.new (w1.alloc (.cells (instV ⟨op, form, frm, kind, rd, rs1, rs2, rs3, rm, imm, csr⟩) 27)) (useV zeroU) 68
    have kZ := ((k0.below hb (by simp)).alloc (.cells (instV ⟨op, form, frm, kind, rd, rs1, rs2, rs3, rm, imm, csr⟩) 27)).alloc (.cells (useV zeroU) 68)
    have hw1 : W.heap.size + 1 ≤ w1.heap.size := by have := hb.size; simpa using this
    have kB := ((((Below.refl W.heap.size W).alloc (Nat.le_refl _) (.cells (useV zeroU) 68)).trans (hb.mono (by simp))).alloc (by omega) (.cells (instV ⟨op, form, frm, kind, rd, rs1, rs2, rs3, rm, imm, csr⟩) 27)).alloc (by simp; omega) (.cells (useV zeroU) 68)
    rw [World.size_alloc] at kU
    obtain ⟨Wn, hWn⟩ : ∃ Wn, (w1.alloc (.cells (instV ⟨op, form, frm, kind, rd, rs1, rs2, rs3, rm, imm, csr⟩) 27)).alloc (.cells (useV zeroU) 68) = Wn := ⟨_, rfl⟩
    show Code.wp _ _ _ _ ((w1.alloc (.cells (instV ⟨op, form, frm, kind, rd, rs1, rs2, rs3, rm, imm, csr⟩) 27)).alloc (.cells (useV zeroU) 68))
    rw [hWn] at kI kU kZ kB ⊢
    clear hWn hb k0 C1
    replace hw1 := Lib.hid hw1
    refine wp_region_sets_lit (fun S X => Blk X w1.heap.size (instV ⟨op, form, frm, kind, rd, rs1, rs2, rs3, rm, imm, csr⟩) 27 ∧ Blk X (w1.heap.size + 1) #[.int .u32 ((0 : Nat) : Nat), .int .u32 ((bif S 9 then b else 0 : Nat) : Nat), .int .u32 ((0 : Nat) : Nat), .int .u32 ((bif S 11 then a else 0 : Nat) : Nat)] 68 ∧ Blk X W.heap.size (useV zeroU) 68 ∧ Below W.heap.size W X) (by kernel_rfl) (by kernel_rfl) ⟨kI, kU, kZ, kB.drew⟩ ?_
    obtain ⟨U, V, hV, hU⟩ := worlds (fun S X => Blk X w1.heap.size (instV ⟨op, form, frm, kind, rd, rs1, rs2, rs3, rm, imm, csr⟩) 27 ∧ Blk X (w1.heap.size + 1) #[.int .u32 ((0 : Nat) : Nat), .int .u32 ((bif S 9 then b else 0 : Nat) : Nat), .int .u32 ((0 : Nat) : Nat), .int .u32 ((bif S 11 then a else 0 : Nat) : Nat)] 68 ∧ Blk X W.heap.size (useV zeroU) 68 ∧ Below W.heap.size W X)
    have kb : ∀ u, (V u).cell? ⟨w1.heap.size, 5, none⟩ = some (.int .u8 (rs1 : Nat)) := fun u => by obtain ⟨S, h, _⟩ := hV u; exact h.cell 5
    have ka : ∀ u, (V u).cell? ⟨w1.heap.size, 4, none⟩ = some (.int .u8 (rd : Nat)) := fun u => by obtain ⟨S, h, _⟩ := hV u; exact h.cell 4
    replace hV := Lib.hid hV
    replace hU := Lib.hid hU
    clear kI kU kZ kB
    (repeat (refine sets_quiet (fun w' => ∃ u, w' = V u) hU.out rfl (fun _ _ _ h => h) rfl ?_; intro K hK; go_big_quiet_op; first | go_big_quiet_on | (refine ⟨_, fun _ => rfl, ?_⟩; go_big_quiet_on)))
    refine sets_callv (.int .u32 (b : Nat)) rfl _ 68 [] [] [_] _ rfl rfl Try.f68 Try.func68 (by kernel_rfl) (by kernel_rfl) [_] rfl (fun S X h1 h2 h3 => ?_) ?_
    · refine (Bb.out X).mono ?_
      rintro e X2 ⟨rfl, rfl⟩
      exact ⟨rfl, h3⟩
    simp only [Act.put, List.setIfInBounds_toArray, List.set_cons_succ, List.set_cons_zero]
    (repeat (refine sets_quiet (fun w' => ∃ u, w' = V u) hU.out rfl (fun _ _ _ h => h) rfl ?_; intro K hK; go_big_quiet_op; first | go_big_quiet_on | (refine ⟨_, fun _ => rfl, ?_⟩; go_big_quiet_on)))
    refine sets_callv (.int .u32 (a : Nat)) rfl _ 68 [] [] [_] _ rfl rfl Try.f68 Try.func68 (by kernel_rfl) (by kernel_rfl) [_] rfl (fun S X h1 h2 h3 => ?_) ?_
    · refine (Ba.out X).mono ?_
      rintro e X2 ⟨rfl, rfl⟩
      exact ⟨rfl, h3⟩
    simp only [Act.put, List.setIfInBounds_toArray, List.set_cons_succ, List.set_cons_zero]
    (repeat (refine sets_quiet (fun w' => ∃ u, w' = V u) hU.out rfl (fun _ _ _ h => h) rfl ?_; intro K hK; go_big_quiet_op; first | go_big_quiet_on | (refine ⟨_, fun _ => rfl, ?_⟩; go_big_quiet_on)))
    refine sets_store rfl 28 _ _ rfl rfl ⟨w1.heap.size + 1, 1, none⟩ rfl (.int .u32 (b : Nat)) rfl rfl (by kernel_rfl) ?_ ?_
    · rintro S X h1 h2 ⟨i1, i2, i3, i4⟩
      exact ⟨⟨_, i2.cell 1⟩, i2.frozen 1, i1.other _ _ (by omega), i2.set 1 _, i3.other _ _ (by have := hw1.out; omega), i4.setCell (p := ⟨w1.heap.size + 1, 1, none⟩) (by show W.heap.size ≤ w1.heap.size + 1; have := hw1.out; omega) _⟩
    (repeat (refine sets_quiet (fun w' => ∃ u, w' = V u) hU.out rfl (fun _ _ _ h => h) rfl ?_; intro K hK; go_big_quiet_op; first | go_big_quiet_on | (refine ⟨_, fun _ => rfl, ?_⟩; go_big_quiet_on)))
    refine sets_store rfl 28 _ _ rfl rfl ⟨w1.heap.size + 1, 3, none⟩ rfl (.int .u32 (a : Nat)) rfl rfl (by kernel_rfl) ?_ ?_
    · rintro S X h1 h2 ⟨i1, i2, i3, i4⟩
      exact ⟨⟨_, i2.cell 3⟩, i2.frozen 3, i1.other _ _ (by omega), i2.set 3 _, i3.other _ _ (by have := hw1.out; omega), i4.setCell (p := ⟨w1.heap.size + 1, 3, none⟩) (by show W.heap.size ≤ w1.heap.size + 1; have := hw1.out; omega) _⟩
    rintro S X hS ⟨i1, i2, i3, i4⟩
    rw [show S 9 = true from hS 9 (by decide), show S 11 = true from hS 11 (by decide)] at i2
    simp only [cond_true] at i2
    replace i1 := Lib.hid i1
    replace i4 := Lib.hid i4
    clear hU hV kb ka
    go_wp2_with (first
      | (refine wpList_load_blk rfl _ _ rfl _ rfl _ _ _ i2 Try.underlying68 rfl (by kernel_rfl) ?_)
      | (refine wpList_store_blk rfl _ _ _ rfl _ _ rfl rfl _ _ i3 (by kernel_rfl) rfl (by simp [Value.oneCell']) ?_))
    exact bodyPost_ret (results_cell_tmp rfl _ _ W.heap.size _ _ _ rfl (i3.row _) Try.underlying68 rfl (by kernel_rfl)) rfl ⟨by simp only [Option.map_some, Option.getD_some, HU4.out]; rfl, below_setRow i4.out (Nat.le_refl _) _⟩
end Go.Proofs.Yteelconabmfnkaa

/- decode.Uses at some Ops. -/
namespace Go.Proofs.Yteelconabmfnkaa
open Go Go.RowKit
set_option maxHeartbeats 4000000
set_option maxRecDepth 100000
set_option linter.unusedVariables false
set_option linter.unusedSimpArgs false
theorem uses_H (W : World) (w : Nat) (hw : w < 4294967296) (op form frm kind rd rs1 rs2 rs3 rm : Nat) (imm : Int) (csr : Nat) (hop : op = 3 ∨ op = 4 ∨ op = 5 ∨ op = 6) (h1 : rd < 32) (h2 : rs1 < 32) (h3 : rs2 < 32) (h4 : rs3 < 32) (hd : DEC w = some ⟨op, form, frm, kind, rd, rs1, rs2, rs3, rm, imm, csr⟩) :
    Calls Try.prog 41 #[.int .u32 w] W (UsesP W w) := by
  have C1 : Hid (∀ X, Calls Try.prog 22 #[.int .u32 w] X fun e w' => e = .returned (.tuple #[.agg (instV ⟨op, form, frm, kind, rd, rs1, rs2, rs3, rm, imm, csr⟩), .int .i64 0]) ∧ Below X.heap.size X w') := Lib.hid fun X => by
    have := decode_c X w hw
    unfold DecP at this
    rw [hd] at this
    exact this
  unfold UsesP
  rw [hd]
  clear hd
  obtain ⟨b, hb⟩ : ∃ p, 2 ^ rs1 = p := ⟨_, rfl⟩
  have Bb := Lib.hid (fun X => bit_c X rs1 b h2 hb)
  have lb := pow_lt32 h2 hb
  obtain ⟨c, hc⟩ : ∃ p, 2 ^ rs2 = p := ⟨_, rfl⟩
  have Bc := Lib.hid (fun X => bit_c X rs2 c h3 hc)
  have lc := pow_lt32 h3 hc
  obtain ⟨d, hd⟩ : ∃ p, 2 ^ rs3 = p := ⟨_, rfl⟩
  have Bd := Lib.hid (fun X => bit_c X rs3 d h4 hd)
  have ld := pow_lt32 h4 hd
  obtain ⟨a, ha⟩ : ∃ p, 2 ^ rd = p := ⟨_, rfl⟩
  have Ba := Lib.hid (fun X => bit_c X rd a h1 ha)
  have la := pow_lt32 h1 ha
  obtain ⟨bc, hbc⟩ : ∃ p, b ||| c = p := ⟨_, rfl⟩
  have ebc : bits .or .u32 (b : Int) (c : Int) = ((bc : Nat) : Int) := by rw [← hbc]; exact or32 b c lb lc
  have lbc : bc < 4294967296 := by rw [← hbc]; exact or_lt32 lb lc
  obtain ⟨bcd, hbcd⟩ : ∃ p, bc ||| d = p := ⟨_, rfl⟩
  have ebcd : bits .or .u32 (bc : Int) (d : Int) = ((bcd : Nat) : Int) := by rw [← hbcd]; exact or32 bc d lbc ld
  have HU4 : Hid (USE ⟨op, form, frm, kind, rd, rs1, rs2, rs3, rm, imm, csr⟩ = ⟨0, bcd, 0, a⟩) := Lib.hid (by
    unfold USE
    rcases hop with rfl | rfl | rfl | rfl
    all_goals (simp only []; rw [hb, hc, hd, ha, hbc, hbcd]; first | rfl | (simp; done)))
  have z1 : ((op : Int) == 1) = false := by rw [beq_eq_false_iff_ne]; omega
  have z22 : ((op : Int) == 22) = false := by rw [beq_eq_false_iff_ne]; omega
  have z25 : ((op : Int) == 25) = false := by rw [beq_eq_false_iff_ne]; omega
  have z2 : ((op : Int) == 2) = false := by rw [beq_eq_false_iff_ne]; omega
  have z26 : ((op : Int) == 26) = false := by rw [beq_eq_false_iff_ne]; omega
  have z27 : ((op : Int) == 27) = false := by rw [beq_eq_false_iff_ne]; omega
  have z28 : ((op : Int) == 28) = false := by rw [beq_eq_false_iff_ne]; omega
  have z29 : ((op : Int) == 29) = false := by rw [beq_eq_false_iff_ne]; omega
  have z30 : ((op : Int) == 30) = false := by rw [beq_eq_false_iff_ne]; omega
  have z31 : ((op : Int) == 31) = false := by rw [beq_eq_false_iff_ne]; omega
  have z21 : ((op : Int) == 21) = false := by rw [beq_eq_false_iff_ne]; omega
  have z23 : ((op : Int) == 23) = false := by rw [beq_eq_false_iff_ne]; omega
  have z24 : ((op : Int) == 24) = false := by rw [beq_eq_false_iff_ne]; omega
  have z18 : ((op : Int) == 18) = false := by rw [beq_eq_false_iff_ne]; omega
  have z19 : ((op : Int) == 19) = false := by rw [beq_eq_false_iff_ne]; omega
  have z20 : ((op : Int) == 20) = false := by rw [beq_eq_false_iff_ne]; omega
  have z11 : ((op : Int) == 11) = false := by rw [beq_eq_false_iff_ne]; omega
  have z17 : ((op : Int) == 17) = false := by rw [beq_eq_false_iff_ne]; omega
  have hz : (((op : Int) == 3) = true) ∨ (((op : Int) == 3) = false ∧ ((op : Int) == 4) = true) ∨ (((op : Int) == 3) = false ∧ ((op : Int) == 4) = false ∧ ((op : Int) == 5) = true) ∨ (((op : Int) == 3) = false ∧ ((op : Int) == 4) = false ∧ ((op : Int) == 5) = false ∧ ((op : Int) == 6) = true) := by rcases hop with rfl | rfl | rfl | rfl <;> simp
  rcases hz with y3 | ⟨y3, y4⟩ | ⟨y3, y4, y5⟩ | ⟨y3, y4, y5, y6⟩
  clear hop
  all_goals
    clear hb hc hd ha
    go_enter Try.func41, Try.ntmps41
    have k0 := Blk.new W (useV zeroU) 68
    go_wp2_with (first
      | (go_at_call 22; (with_reducible refine (C1.out _).mono ?_); rintro e w1 ⟨rfl, hb⟩))
    have kI := (Blk.new w1 (instV ⟨op, form, frm, kind, rd, rs1, rs2, rs3, rm, imm, csr⟩) 27).alloc (.cells (useV zeroU) 68)
    have kU := Blk.new (w1.alloc (.cells (instV ⟨op, form, frm, kind, rd, rs1, rs2, rs3, rm, imm, csr⟩) 27)) (useV zeroU) 68
    have kZ := ((k0.below hb (by simp)).alloc (.cells (instV ⟨op, form, frm, kind, rd, rs1, rs2, rs3, rm, imm, csr⟩) 27)).alloc (.cells (useV zeroU) 68)
    have hw1 : W.heap.size + 1 ≤ w1.heap.size := by have := hb.size; simpa using this
    have kB := ((((Below.refl W.heap.size W).alloc (Nat.le_refl _) (.cells (useV zeroU) 68)).trans (hb.mono (by simp))).alloc (by omega) (.cells (instV ⟨op, form, frm, kind, rd, rs1, rs2, rs3, rm, imm, csr⟩) 27)).alloc (by simp; omega) (.cells (useV zeroU) 68)
    rw [World.size_alloc] at kU
    obtain ⟨Wn, hWn⟩ : ∃ Wn, (w1.alloc (.cells (instV ⟨op, form, frm, kind, rd, rs1, rs2, rs3, rm, imm, csr⟩) 27)).alloc (.cells (useV zeroU) 68) = Wn := ⟨_, rfl⟩
    show Code.wp _ _ _ _ ((w1.alloc (.cells (instV ⟨op, form, frm, kind, rd, rs1, rs2, rs3, rm, imm, csr⟩) 27)).alloc (.cells (useV zeroU) 68))
    rw [hWn] at kI kU kZ kB ⊢
    clear hWn hb k0 C1
    replace hw1 := Lib.hid hw1
    refine wp_region_sets_lit (fun S X => Blk X w1.heap.size (instV ⟨op, form, frm, kind, rd, rs1, rs2, rs3, rm, imm, csr⟩) 27 ∧ Blk X (w1.heap.size + 1) #[.int .u32 ((0 : Nat) : Nat), .int .u32 ((bif S 19 then bcd else 0 : Nat) : Nat), .int .u32 ((0 : Nat) : Nat), .int .u32 ((bif S 21 then a else 0 : Nat) : Nat)] 68 ∧ Blk X W.heap.size (useV zeroU) 68 ∧ Below W.heap.size W X) (by kernel_rfl) (by kernel_rfl) ⟨kI, kU, kZ, kB.drew⟩ ?_
    obtain ⟨U, V, hV, hU⟩ := worlds (fun S X => Blk X w1.heap.size (instV ⟨op, form, frm, kind, rd, rs1, rs2, rs3, rm, imm, csr⟩) 27 ∧ Blk X (w1.heap.size + 1) #[.int .u32 ((0 : Nat) : Nat), .int .u32 ((bif S 19 then bcd else 0 : Nat) : Nat), .int .u32 ((0 : Nat) : Nat), .int .u32 ((bif S 21 then a else 0 : Nat) : Nat)] 68 ∧ Blk X W.heap.size (useV zeroU) 68 ∧ Below W.heap.size W X)
    have kb : ∀ u, (V u).cell? ⟨w1.heap.size, 5, none⟩ = some (.int .u8 (rs1 : Nat)) := fun u => by obtain ⟨S, h, _⟩ := hV u; exact h.cell 5
    have kc : ∀ u, (V u).cell? ⟨w1.heap.size, 6, none⟩ = some (.int .u8 (rs2 : Nat)) := fun u => by obtain ⟨S, h, _⟩ := hV u; exact h.cell 6
    have kd : ∀ u, (V u).cell? ⟨w1.heap.size, 7, none⟩ = some (.int .u8 (rs3 : Nat)) := fun u => by obtain ⟨S, h, _⟩ := hV u; exact h.cell 7
    have ka : ∀ u, (V u).cell? ⟨w1.heap.size, 4, none⟩ = some (.int .u8 (rd : Nat)) := fun u => by obtain ⟨S, h, _⟩ := hV u; exact h.cell 4
    replace hV := Lib.hid hV
    replace hU := Lib.hid hU
    clear kI kU kZ kB
    (repeat (refine sets_quiet (fun w' => ∃ u, w' = V u) hU.out rfl (fun _ _ _ h => h) rfl ?_; intro K hK; go_big_quiet_op; first | go_big_quiet_on | (refine ⟨_, fun _ => rfl, ?_⟩; go_big_quiet_on)))
    refine sets_callv (.int .u32 (b : Nat)) rfl _ 68 [] [] [_] _ rfl rfl Try.f68 Try.func68 (by kernel_rfl) (by kernel_rfl) [_] rfl (fun S X h1 h2 h3 => ?_) ?_
    · refine (Bb.out X).mono ?_
      rintro e X2 ⟨rfl, rfl⟩
      exact ⟨rfl, h3⟩
    simp only [Act.put, List.setIfInBounds_toArray, List.set_cons_succ, List.set_cons_zero]
    (repeat (refine sets_quiet (fun w' => ∃ u, w' = V u) hU.out rfl (fun _ _ _ h => h) rfl ?_; intro K hK; go_big_quiet_op; first | go_big_quiet_on | (refine ⟨_, fun _ => rfl, ?_⟩; go_big_quiet_on)))
    refine sets_callv (.int .u32 (c : Nat)) rfl _ 68 [] [] [_] _ rfl rfl Try.f68 Try.func68 (by kernel_rfl) (by kernel_rfl) [_] rfl (fun S X h1 h2 h3 => ?_) ?_
    · refine (Bc.out X).mono ?_
      rintro e X2 ⟨rfl, rfl⟩
      exact ⟨rfl, h3⟩
    simp only [Act.put, List.setIfInBounds_toArray, List.set_cons_succ, List.set_cons_zero]
    (repeat (refine sets_quiet (fun w' => ∃ u, w' = V u) hU.out rfl (fun _ _ _ h => h) rfl ?_; intro K hK; go_big_quiet_op; first | go_big_quiet_on | (refine ⟨_, fun _ => rfl, ?_⟩; go_big_quiet_on)))
    refine sets_callv (.int .u32 (d : Nat)) rfl _ 68 [] [] [_] _ rfl rfl Try.f68 Try.func68 (by kernel_rfl) (by kernel_rfl) [_] rfl (fun S X h1 h2 h3 => ?_) ?_
    · refine (Bd.out X).mono ?_
      rintro e X2 ⟨rfl, rfl⟩
      exact ⟨rfl, h3⟩
    simp only [Act.put, List.setIfInBounds_toArray, List.set_cons_succ, List.set_cons_zero]
    (repeat (refine sets_quiet (fun w' => ∃ u, w' = V u) hU.out rfl (fun _ _ _ h => h) rfl ?_; intro K hK; go_big_quiet_op; first | go_big_quiet_on | (refine ⟨_, fun _ => rfl, ?_⟩; go_big_quiet_on)))
    refine sets_callv (.int .u32 (a : Nat)) rfl _ 68 [] [] [_] _ rfl rfl Try.f68 Try.func68 (by kernel_rfl) (by kernel_rfl) [_] rfl (fun S X h1 h2 h3 => ?_) ?_
    · refine (Ba.out X).mono ?_
      rintro e X2 ⟨rfl, rfl⟩
      exact ⟨rfl, h3⟩
    simp only [Act.put, List.setIfInBounds_toArray, List.set_cons_succ, List.set_cons_zero]
    (repeat (refine sets_quiet (fun w' => ∃ u, w' = V u) hU.out rfl (fun _ _ _ h => h) rfl ?_; intro K hK; go_big_quiet_op; first | go_big_quiet_on | (refine ⟨_, fun _ => rfl, ?_⟩; go_big_quiet_on)))
    refine sets_store rfl 28 _ _ rfl rfl ⟨w1.heap.size + 1, 1, none⟩ rfl (.int .u32 (bcd : Nat)) rfl rfl (by kernel_rfl) ?_ ?_
    · rintro S X h1 h2 ⟨i1, i2, i3, i4⟩
      exact ⟨⟨_, i2.cell 1⟩, i2.frozen 1, i1.other _ _ (by omega), i2.set 1 _, i3.other _ _ (by have := hw1.out; omega), i4.setCell (p := ⟨w1.heap.size + 1, 1, none⟩) (by show W.heap.size ≤ w1.heap.size + 1; have := hw1.out; omega) _⟩
    (repeat (refine sets_quiet (fun w' => ∃ u, w' = V u) hU.out rfl (fun _ _ _ h => h) rfl ?_; intro K hK; go_big_quiet_op; first | go_big_quiet_on | (refine ⟨_, fun _ => rfl, ?_⟩; go_big_quiet_on)))
    refine sets_store rfl 28 _ _ rfl rfl ⟨w1.heap.size + 1, 3, none⟩ rfl (.int .u32 (a : Nat)) rfl rfl (by kernel_rfl) ?_ ?_
    · rintro S X h1 h2 ⟨i1, i2, i3, i4⟩
      exact ⟨⟨_, i2.cell 3⟩, i2.frozen 3, i1.other _ _ (by omega), i2.set 3 _, i3.other _ _ (by have := hw1.out; omega), i4.setCell (p := ⟨w1.heap.size + 1, 3, none⟩) (by show W.heap.size ≤ w1.heap.size + 1; have := hw1.out; omega) _⟩
    rintro S X hS ⟨i1, i2, i3, i4⟩
    rw [show S 19 = true from hS 19 (by decide), show S 21 = true from hS 21 (by decide)] at i2
    simp only [cond_true] at i2
    replace i1 := Lib.hid i1
    replace i4 := Lib.hid i4
    clear hU hV kb kc kd ka
    go_wp2_with (first
      | (refine wpList_load_blk rfl _ _ rfl _ rfl _ _ _ i2 Try.underlying68 rfl (by kernel_rfl) ?_)
      | (refine wpList_store_blk rfl _ _ _ rfl _ _ rfl rfl _ _ i3 (by kernel_rfl) rfl (by simp [Value.oneCell']) ?_))
    exact bodyPost_ret (results_cell_tmp rfl _ _ W.heap.size _ _ _ rfl (i3.row _) Try.underlying68 rfl (by kernel_rfl)) rfl ⟨by simp only [Option.map_some, Option.getD_some, HU4.out]; rfl, below_setRow i4.out (Nat.le_refl _) _⟩
end Go.Proofs.Yteelconabmfnkaa

/- decode.Uses at some Ops. -/
namespace Go.Proofs.Yteelconabmfnkaa
open Go Go.RowKit
set_option maxHeartbeats 4000000
set_option maxRecDepth 100000
set_option linter.unusedVariables false
set_option linter.unusedSimpArgs false
theorem uses_I (W : World) (w : Nat) (hw : w < 4294967296) (op form frm kind rd rs1 rs2 rs3 rm : Nat) (imm : Int) (csr : Nat) (hop : op = 7 ∨ op = 8 ∨ op = 9 ∨ op = 10 ∨ op = 12 ∨ op = 13 ∨ op = 14 ∨ op = 15 ∨ op = 16) (h1 : rd < 32) (h2 : rs1 < 32) (h3 : rs2 < 32) (h4 : rs3 < 32) (hd : DEC w = some ⟨op, form, frm, kind, rd, rs1, rs2, rs3, rm, imm, csr⟩) :
    Calls Try.prog 41 #[.int .u32 w] W (UsesP W w) := by
  have C1 : Hid (∀ X, Calls Try.prog 22 #[.int .u32 w] X fun e w' => e = .returned (.tuple #[.agg (instV ⟨op, form, frm, kind, rd, rs1, rs2, rs3, rm, imm, csr⟩), .int .i64 0]) ∧ Below X.heap.size X w') := Lib.hid fun X => by
    have := decode_c X w hw
    unfold DecP at this
    rw [hd] at this
    exact this
  unfold UsesP
  rw [hd]
  clear hd
  obtain ⟨b, hb⟩ : ∃ p, 2 ^ rs1 = p := ⟨_, rfl⟩
  have Bb := Lib.hid (fun X => bit_c X rs1 b h2 hb)
  have lb := pow_lt32 h2 hb
  obtain ⟨c, hc⟩ : ∃ p, 2 ^ rs2 = p := ⟨_, rfl⟩
  have Bc := Lib.hid (fun X => bit_c X rs2 c h3 hc)
  have lc := pow_lt32 h3 hc
  obtain ⟨a, ha⟩ : ∃ p, 2 ^ rd = p := ⟨_, rfl⟩
  have Ba := Lib.hid (fun X => bit_c X rd a h1 ha)
  have la := pow_lt32 h1 ha
  obtain ⟨bc, hbc⟩ : ∃ p, b ||| c = p := ⟨_, rfl⟩
  have ebc : bits .or .u32 (b : Int) (c : Int) = ((bc : Nat) : Int) := by rw [← hbc]; exact or32 b c lb lc
  have HU4 : Hid (USE ⟨op, form, frm, kind, rd, rs1, rs2, rs3, rm, imm, csr⟩ = ⟨0, bc, 0, a⟩) := Lib.hid (by
    unfold USE
    rcases hop with rfl | rfl | rfl | rfl | rfl | rfl | rfl | rfl | rfl
    all_goals (simp only []; rw [hb, hc, ha, hbc]; first | rfl | (simp; done)))
  have z1 : ((op : Int) == 1) = false := by rw [beq_eq_false_iff_ne]; omega
  have z22 : ((op : Int) == 22) = false := by rw [beq_eq_false_iff_ne]; omega
  have z25 : ((op : Int) == 25) = false := by rw [beq_eq_false_iff_ne]; omega
  have z2 : ((op : Int) == 2) = false := by rw [beq_eq_false_iff_ne]; omega
  have z26 : ((op : Int) == 26) = false := by rw [beq_eq_false_iff_ne]; omega
  have z27 : ((op : Int) == 27) = false := by rw [beq_eq_false_iff_ne]; omega
  have z28 : ((op : Int) == 28) = false := by rw [beq_eq_false_iff_ne]; omega
  have z29 : ((op : Int) == 29) = false := by rw [beq_eq_false_iff_ne]; omega
  have z30 : ((op : Int) == 30) = false := by rw [beq_eq_false_iff_ne]; omega
  have z31 : ((op : Int) == 31) = false := by rw [beq_eq_false_iff_ne]; omega
  have z21 : ((op : Int) == 21) = false := by rw [beq_eq_false_iff_ne]; omega
  have z23 : ((op : Int) == 23) = false := by rw [beq_eq_false_iff_ne]; omega
  have z24 : ((op : Int) == 24) = false := by rw [beq_eq_false_iff_ne]; omega
  have z18 : ((op : Int) == 18) = false := by rw [beq_eq_false_iff_ne]; omega
  have z19 : ((op : Int) == 19) = false := by rw [beq_eq_false_iff_ne]; omega
  have z20 : ((op : Int) == 20) = false := by rw [beq_eq_false_iff_ne]; omega
  have z11 : ((op : Int) == 11) = false := by rw [beq_eq_false_iff_ne]; omega
  have z17 : ((op : Int) == 17) = false := by rw [beq_eq_false_iff_ne]; omega
  have z3 : ((op : Int) == 3) = false := by rw [beq_eq_false_iff_ne]; omega
  have z4 : ((op : Int) == 4) = false := by rw [beq_eq_false_iff_ne]; omega
  have z5 : ((op : Int) == 5) = false := by rw [beq_eq_false_iff_ne]; omega
  have z6 : ((op : Int) == 6) = false := by rw [beq_eq_false_iff_ne]; omega
  clear hop
  all_goals
    clear hb hc ha
    go_enter Try.func41, Try.ntmps41
    have k0 := Blk.new W (useV zeroU) 68
    go_wp2_with (first
      | (go_at_call 22; (with_reducible refine (C1.out _).mono ?_); rintro e w1 ⟨rfl, hb⟩))
    have kI := (Blk.new w1 (instV ⟨op, form, frm, kind, rd, rs1, rs2, rs3, rm, imm, csr⟩) 27).alloc (.cells (useV zeroU) 68)
    have kU := Blk.new (w1.alloc (.cells (instV ⟨op, form, frm, kind, rd, rs1, rs2, rs3, rm, imm, csr⟩) 27)) (useV zeroU) 68
    have kZ := ((k0.below hb (by simp)).alloc (.cells (instV ⟨op, form, frm, kind, rd, rs1, rs2, rs3, rm, imm, csr⟩) 27)).alloc (.cells (useV zeroU) 68)
    have hw1 : W.heap.size + 1 ≤ w1.heap.size := by have := hb.size; simpa using this
    have kB := ((((Below.refl W.heap.size W).alloc (Nat.le_refl _) (.cells (useV zeroU) 68)).trans (hb.mono (by simp))).alloc (by omega) (.cells (instV ⟨op, form, frm, kind, rd, rs1, rs2, rs3, rm, imm, csr⟩) 27)).alloc (by simp; omega) (.cells (useV zeroU) 68)
    rw [World.size_alloc] at kU
    obtain ⟨Wn, hWn⟩ : ∃ Wn, (w1.alloc (.cells (instV ⟨op, form, frm, kind, rd, rs1, rs2, rs3, rm, imm, csr⟩) 27)).alloc (.cells (useV zeroU) 68) = Wn := ⟨_, rfl⟩
    show Code.wp _ _ _ _ ((w1.alloc (.cells (instV ⟨op, form, frm, kind, rd, rs1, rs2, rs3, rm, imm, csr⟩) 27)).alloc (.cells (useV zeroU) 68))
    rw [hWn] at kI kU kZ kB ⊢
    clear hWn hb k0 C1
    replace hw1 := Lib.hid hw1
    refine wp_region_sets_lit (fun S X => Blk X w1.heap.size (instV ⟨op, form, frm, kind, rd, rs1, rs2, rs3, rm, imm, csr⟩) 27 ∧ Blk X (w1.heap.size + 1) #[.int .u32 ((0 : Nat) : Nat), .int .u32 ((bif S 14 then bc else 0 : Nat) : Nat), .int .u32 ((0 : Nat) : Nat), .int .u32 ((bif S 16 then a else 0 : Nat) : Nat)] 68 ∧ Blk X W.heap.size (useV zeroU) 68 ∧ Below W.heap.size W X) (by kernel_rfl) (by kernel_rfl) ⟨kI, kU, kZ, kB.drew⟩ ?_
    obtain ⟨U, V, hV, hU⟩ := worlds (fun S X => Blk X w1.heap.size (instV ⟨op, form, frm, kind, rd, rs1, rs2, rs3, rm, imm, csr⟩) 27 ∧ Blk X (w1.heap.size + 1) #[.int .u32 ((0 : Nat) : Nat), .int .u32 ((bif S 14 then bc else 0 : Nat) : Nat), .int .u32 ((0 : Nat) : Nat), .int .u32 ((bif S 16 then a else 0 : Nat) : Nat)] 68 ∧ Blk X W.heap.size (useV zeroU) 68 ∧ Below W.heap.size W X)
    have kb : ∀ u, (V u).cell? ⟨w1.heap.size, 5, none⟩ = some (.int .u8 (rs1 : Nat)) := fun u => by obtain ⟨S, h, _⟩ := hV u; exact h.cell 5
    have kc : ∀ u, (V u).cell? ⟨w1.heap.size, 6, none⟩ = some (.int .u8 (rs2 : Nat)) := fun u => by obtain ⟨S, h, _⟩ := hV u; exact h.cell 6
    have ka : ∀ u, (V u).cell? ⟨w1.heap.size, 4, none⟩ = some (.int .u8 (rd : Nat)) := fun u => by obtain ⟨S, h, _⟩ := hV u; exact h.cell 4
    replace hV := Lib.hid hV
    replace hU := Lib.hid hU
    clear kI kU kZ kB
    (repeat (refine sets_quiet (fun w' => ∃ u, w' = V u) hU.out rfl (fun _ _ _ h => h) rfl ?_; intro K hK; go_big_quiet_op; first | go_big_quiet_on | (refine ⟨_, fun _ => rfl, ?_⟩; go_big_quiet_on)))
    refine sets_callv (.int .u32 (b : Nat)) rfl _ 68 [] [] [_] _ rfl rfl Try.f68 Try.func68 (by kernel_rfl) (by kernel_rfl) [_] rfl (fun S X h1 h2 h3 => ?_) ?_
    · refine (Bb.out X).mono ?_
      rintro e X2 ⟨rfl, rfl⟩
      exact ⟨rfl, h3⟩
    simp only [Act.put, List.setIfInBounds_toArray, List.set_cons_succ, List.set_cons_zero]
    (repeat (refine sets_quiet (fun w' => ∃ u, w' = V u) hU.out rfl (fun _ _ _ h => h) rfl ?_; intro K hK; go_big_quiet_op; first | go_big_quiet_on | (refine ⟨_, fun _ => rfl, ?_⟩; go_big_quiet_on)))
    refine sets_callv (.int .u32 (c : Nat)) rfl _ 68 [] [] [_] _ rfl rfl Try.f68 Try.func68 (by kernel_rfl) (by kernel_rfl) [_] rfl (fun S X h1 h2 h3 => ?_) ?_
    · refine (Bc.out X).mono ?_
      rintro e X2 ⟨rfl, rfl⟩
      exact ⟨rfl, h3⟩
    simp only [Act.put, List.setIfInBounds_toArray, List.set_cons_succ, List.set_cons_zero]
    (repeat (refine sets_quiet (fun w' => ∃ u, w' = V u) hU.out rfl (fun _ _ _ h => h) rfl ?_; intro K hK; go_big_quiet_op; first | go_big_quiet_on | (refine ⟨_, fun _ => rfl, ?_⟩; go_big_quiet_on)))
    refine sets_callv (.int .u32 (a : Nat)) rfl _ 68 [] [] [_] _ rfl rfl Try.f68 Try.func68 (by kernel_rfl) (by kernel_rfl) [_] rfl (fun S X h1 h2 h3 => ?_) ?_
    · refine (Ba.out X).mono ?_
      rintro e X2 ⟨rfl, rfl⟩
      exact ⟨rfl, h3⟩
    simp only [Act.put, List.setIfInBounds_toArray, List.set_cons_succ, List.set_cons_zero]
    (repeat (refine sets_quiet (fun w' => ∃ u, w' = V u) hU.out rfl (fun _ _ _ h => h) rfl ?_; intro K hK; go_big_quiet_op; first | go_big_quiet_on | (refine ⟨_, fun _ => rfl, ?_⟩; go_big_quiet_on)))
    refine sets_store rfl 28 _ _ rfl rfl ⟨w1.heap.size + 1, 1, none⟩ rfl (.int .u32 (bc : Nat)) rfl rfl (by kernel_rfl) ?_ ?_
    · rintro S X h1 h2 ⟨i1, i2, i3, i4⟩
      exact ⟨⟨_, i2.cell 1⟩, i2.frozen 1, i1.other _ _ (by omega), i2.set 1 _, i3.other _ _ (by have := hw1.out; omega), i4.setCell (p := ⟨w1.heap.size + 1, 1, none⟩) (by show W.heap.size ≤ w1.heap.size + 1; have := hw1.out; omega) _⟩
    (repeat (refine sets_quiet (fun w' => ∃ u, w' = V u) hU.out rfl (fun _ _ _ h => h) rfl ?_; intro K hK; go_big_quiet_op; first | go_big_quiet_on | (refine ⟨_, fun _ => rfl, ?_⟩; go_big_quiet_on)))
    refine sets_store rfl 28 _ _ rfl rfl ⟨w1.heap.size + 1, 3, none⟩ rfl (.int .u32 (a : Nat)) rfl rfl (by kernel_rfl) ?_ ?_
    · rintro S X h1 h2 ⟨i1, i2, i3, i4⟩
      exact ⟨⟨_, i2.cell 3⟩, i2.frozen 3, i1.other _ _ (by omega), i2.set 3 _, i3.other _ _ (by have := hw1.out; omega), i4.setCell (p := ⟨w1.heap.size + 1, 3, none⟩) (by show W.heap.size ≤ w1.heap.size + 1; have := hw1.out; omega) _⟩
    rintro S X hS ⟨i1, i2, i3, i4⟩
    rw [show S 14 = true from hS 14 (by decide), show S 16 = true from hS 16 (by decide)] at i2
    simp only [cond_true] at i2
    replace i1 := Lib.hid i1
    replace i4 := Lib.hid i4
    clear hU hV kb kc ka
    go_wp2_with (first
      | (refine wpList_load_blk rfl _ _ rfl _ rfl _ _ _ i2 Try.underlying68 rfl (by kernel_rfl) ?_)
      | (refine wpList_store_blk rfl _ _ _ rfl _ _ rfl rfl _ _ i3 (by kernel_rfl) rfl (by simp [Value.oneCell']) ?_))
    exact bodyPost_ret (results_cell_tmp rfl _ _ W.heap.size _ _ _ rfl (i3.row _) Try.underlying68 rfl (by kernel_rfl)) rfl ⟨by simp only [Option.map_some, Option.getD_some, HU4.out]; rfl, below_setRow i4.out (Nat.le_refl _) _⟩
end Go.Proofs.Yteelconabmfnkaa
