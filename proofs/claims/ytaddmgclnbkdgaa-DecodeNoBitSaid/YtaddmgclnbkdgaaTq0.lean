/- decode.Uses at some Ops. -/
import Derived.Test.YtaddmgclnbkdgaaTp
namespace Go.Proofs.Ytaddmgclnbkdgaa
open Go Go.RowKit
set_option maxHeartbeats 4000000
set_option maxRecDepth 100000
set_option linter.unusedVariables false
set_option linter.unusedSimpArgs false
theorem uses_A (W : World) (w : Nat) (hw : w < 4294967296) (op form frm kind rd rs1 rs2 rs3 rm : Nat) (imm : Int) (csr : Nat) (hop : op = 1 ∨ op = 22 ∨ op = 25) (h1 : rd < 32) (h2 : rs1 < 32) (h3 : rs2 < 32) (h4 : rs3 < 32) (hd : DEC w = some ⟨op, form, frm, kind, rd, rs1, rs2, rs3, rm, imm, csr⟩) :
    Calls Try.prog 41 #[.int .u32 w] W (UsesP W w) := by
  have C1 : Hid (∀ X, Calls Try.prog 22 #[.int .u32 w] X fun e w' => e = .returned (.tuple #[.agg (instV ⟨op, form, frm, kind, rd, rs1, rs2, rs3, rm, imm, csr⟩), .int .i64 0]) ∧ Below X.heap.size X w') := Lib.hid fun X => by
    have := decode_c X w hw
    unfold DecP at this
    rw [hd] at this
    exact this
  unfold UsesP
  rw [hd]
  clear hd
  obtain ⟨b, hb⟩ : ∃ p, 2 ^ rs1 = p := ⟨_, rfl⟩
  have Bb := Lib.hid (fun X => bit_c X rs1 b h2 hb)
  have lb := pow_lt32 h2 hb
  obtain ⟨a, ha⟩ : ∃ p, 2 ^ rd = p := ⟨_, rfl⟩
  have Ba := Lib.hid (fun X => bit_c X rd a h1 ha)
  have la := pow_lt32 h1 ha
  have HU4 : Hid (USE ⟨op, form, frm, kind, rd, rs1, rs2, rs3, rm, imm, csr⟩ = ⟨b, 0, 0, a⟩) := Lib.hid (by
    unfold USE
    rcases hop with rfl | rfl | rfl
    all_goals (simp only []; rw [hb, ha]; first | rfl | (simp; done)))
  have hz : (((op : Int) == 1) = true) ∨ (((op : Int) == 1) = false ∧ ((op : Int) == 22) = true) ∨ (((op : Int) == 1) = false ∧ ((op : Int) == 22) = false ∧ ((op : Int) == 25) = true) := by rcases hop with rfl | rfl | rfl <;> simp
  rcases hz with y1 | ⟨y1, y22⟩ | ⟨y1, y22, y25⟩
  clear hop
  all_goals
    clear hb ha
    go_enter Try.func41, Try.ntmps41
    have k0 := Blk.new W (useV zeroU) 68
    go_wp2_with (first
      | (go_at_call 22; (with_reducible refine (C1.out _).mono ?_); rintro e w1 ⟨rfl, hb⟩))
    have kI := (Blk.new w1 (instV ⟨op, form, frm, kind, rd, rs1, rs2, rs3, rm, imm, csr⟩) 27).alloc (.cells (useV zeroU) 68)
    have kU := Blk.new (w1.alloc (.cells (instV ⟨op, form, frm, kind, rd, rs1, rs2, rs3, rm, imm, csr⟩) 27)) (useV zeroU) 68
    have kZ := ((k0.below hb (by simp)).alloc (.cells (instV ⟨op, form, frm, kind, rd, rs1, rs2, rs3, rm, imm, csr⟩) 27)).alloc (.cells (useV zeroU) 68)
    have hw1 : W.heap.size + 1 ≤ w1.heap.size := by have := hb.size; simpa using this
    have kB := ((((Below.refl W.heap.size W).alloc (Nat.le_refl _) (.cells (useV zeroU) 68)).trans (hb.mono (by simp))).alloc (by omega) (.cells (instV ⟨op, form, frm, kind, rd, rs1, rs2, rs3, rm, imm, csr⟩) 27)).alloc (by simp; omega) (.cells (useV zeroU) 68)
    rw [World.size_alloc] at kU
    obtain ⟨Wn, hWn⟩ : ∃ Wn, (w1.alloc (.cells (instV ⟨op, form, frm, kind, rd, rs1, rs2, rs3, rm, imm, csr⟩) 27)).alloc (.cells (useV zeroU) 68) = Wn := ⟨_, rfl⟩
    show Code.wp _ _ _ _ ((w1.alloc (.cells (instV ⟨op, form, frm, kind, rd, rs1, rs2, rs3, rm, imm, csr⟩) 27)).alloc (.cells (useV zeroU) 68))
    rw [hWn] at kI kU kZ kB ⊢
    clear hWn hb k0 C1
    replace hw1 := Lib.hid hw1
    refine wp_region_sets_lit (fun S X => Blk X w1.heap.size (instV ⟨op, form, frm, kind, rd, rs1, rs2, rs3, rm, imm, csr⟩) 27 ∧ Blk X (w1.heap.size + 1) #[.int .u32 ((bif S 9 then b else 0 : Nat) : Nat), .int .u32 ((0 : Nat) : Nat), .int .u32 ((0 : Nat) : Nat), .int .u32 ((bif S 11 then a else 0 : Nat) : Nat)] 68 ∧ Blk X W.heap.size (useV zeroU) 68 ∧ Below W.heap.size W X) (by kernel_rfl) (by kernel_rfl) ⟨kI, kU, kZ, kB.drew⟩ ?_
    obtain ⟨U, V, hV, hU⟩ := worlds (fun S X => Blk X w1.heap.size (instV ⟨op, form, frm, kind, rd, rs1, rs2, rs3, rm, imm, csr⟩) 27 ∧ Blk X (w1.heap.size + 1) #[.int .u32 ((bif S 9 then b else 0 : Nat) : Nat), .int .u32 ((0 : Nat) : Nat), .int .u32 ((0 : Nat) : Nat), .int .u32 ((bif S 11 then a else 0 : Nat) : Nat)] 68 ∧ Blk X W.heap.size (useV zeroU) 68 ∧ Below W.heap.size W X)
    have kb : ∀ u, (V u).cell? ⟨w1.heap.size, 5, none⟩ = some (.int .u8 (rs1 : Nat)) := fun u => by obtain ⟨S, h, _⟩ := hV u; exact h.cell 5
    have ka : ∀ u, (V u).cell? ⟨w1.heap.size, 4, none⟩ = some (.int .u8 (rd : Nat)) := fun u => by obtain ⟨S, h, _⟩ := hV u; exact h.cell 4
    replace hV := Lib.hid hV
    replace hU := Lib.hid hU
    clear kI kU kZ kB
    (repeat (refine sets_quiet (fun w' => ∃ u, w' = V u) hU.out rfl (fun _ _ _ h => h) rfl ?_; intro K hK; go_big_quiet_op; first | go_big_quiet_on | (refine ⟨_, fun _ => rfl, ?_⟩; go_big_quiet_on)))
    refine sets_callv (.int .u32 (b : Nat)) rfl _ 68 [] [] [_] _ rfl rfl Try.f68 Try.func68 (by kernel_rfl) (by kernel_rfl) [_] rfl (fun S X h1 h2 h3 => ?_) ?_
    · refine (Bb.out X).mono ?_
      rintro e X2 ⟨rfl, rfl⟩
      exact ⟨rfl, h3⟩
    simp only [Act.put, List.setIfInBounds_toArray, List.set_cons_succ, List.set_cons_zero]
    (repeat (refine sets_quiet (fun w' => ∃ u, w' = V u) hU.out rfl (fun _ _ _ h => h) rfl ?_; intro K hK; go_big_quiet_op; first | go_big_quiet_on | (refine ⟨_, fun _ => rfl, ?_⟩; go_big_quiet_on)))
    refine sets_callv (.int .u32 (a : Nat)) rfl _ 68 [] [] [_] _ rfl rfl Try.f68 Try.func68 (by kernel_rfl) (by kernel_rfl) [_] rfl (fun S X h1 h2 h3 => ?_) ?_
    · refine (Ba.out X).mono ?_
      rintro e X2 ⟨rfl, rfl⟩
      exact ⟨rfl, h3⟩
    simp only [Act.put, List.setIfInBounds_toArray, List.set_cons_succ, List.set_cons_zero]
    (repeat (refine sets_quiet (fun w' => ∃ u, w' = V u) hU.out rfl (fun _ _ _ h => h) rfl ?_; intro K hK; go_big_quiet_op; first | go_big_quiet_on | (refine ⟨_, fun _ => rfl, ?_⟩; go_big_quiet_on)))
    refine sets_store rfl 28 _ _ rfl rfl ⟨w1.heap.size + 1, 0, none⟩ rfl (.int .u32 (b : Nat)) rfl rfl (by kernel_rfl) ?_ ?_
    · rintro S X h1 h2 ⟨i1, i2, i3, i4⟩
      exact ⟨⟨_, i2.cell 0⟩, i2.frozen 0, i1.other _ _ (by omega), i2.set 0 _, i3.other _ _ (by have := hw1.out; omega), i4.setCell (p := ⟨w1.heap.size + 1, 0, none⟩) (by show W.heap.size ≤ w1.heap.size + 1; have := hw1.out; omega) _⟩
    (repeat (refine sets_quiet (fun w' => ∃ u, w' = V u) hU.out rfl (fun _ _ _ h => h) rfl ?_; intro K hK; go_big_quiet_op; first | go_big_quiet_on | (refine ⟨_, fun _ => rfl, ?_⟩; go_big_quiet_on)))
    refine sets_store rfl 28 _ _ rfl rfl ⟨w1.heap.size + 1, 3, none⟩ rfl (.int .u32 (a : Nat)) rfl rfl (by kernel_rfl) ?_ ?_
    · rintro S X h1 h2 ⟨i1, i2, i3, i4⟩
      exact ⟨⟨_, i2.cell 3⟩, i2.frozen 3, i1.other _ _ (by omega), i2.set 3 _, i3.other _ _ (by have := hw1.out; omega), i4.setCell (p := ⟨w1.heap.size + 1, 3, none⟩) (by show W.heap.size ≤ w1.heap.size + 1; have := hw1.out; omega) _⟩
    rintro S X hS ⟨i1, i2, i3, i4⟩
    rw [show S 9 = true from hS 9 (by decide), show S 11 = true from hS 11 (by decide)] at i2
    simp only [cond_true] at i2
    replace i1 := Lib.hid i1
    replace i4 := Lib.hid i4
    clear hU hV kb ka
    go_wp2_with (first
      | (refine wpList_load_blk rfl _ _ rfl _ rfl _ _ _ i2 Try.underlying68 rfl (by kernel_rfl) ?_)
      | (refine wpList_store_blk rfl _ _ _ rfl _ _ rfl rfl _ _ i3 (by kernel_rfl) rfl (by simp [Value.oneCell']) ?_))
    exact bodyPost_ret (results_cell_tmp rfl _ _ W.heap.size _ _ _ rfl (i3.row _) Try.underlying68 rfl (by kernel_rfl)) rfl ⟨by simp only [Option.map_some, Option.getD_some, HU4.out]; rfl, below_setRow i4.out (Nat.le_refl _) _⟩
theorem uses_B (W : World) (w : Nat) (hw : w < 4294967296) (op form frm kind rd rs1 rs2 rs3 rm : Nat) (imm : Int) (csr : Nat) (hop : op = 2) (h1 : rd < 32) (h2 : rs1 < 32) (h3 : rs2 < 32) (h4 : rs3 < 32) (hd : DEC w = some ⟨op, form, frm, kind, rd, rs1, rs2, rs3, rm, imm, csr⟩) :
    Calls Try.prog 41 #[.int .u32 w] W (UsesP W w) := by
  have C1 : Hid (∀ X, Calls Try.prog 22 #[.int .u32 w] X fun e w' => e = .returned (.tuple #[.agg (instV ⟨op, form, frm, kind, rd, rs1, rs2, rs3, rm, imm, csr⟩), .int .i64 0]) ∧ Below X.heap.size X w') := Lib.hid fun X => by
    have := decode_c X w hw
    unfold DecP at this
    rw [hd] at this
    exact this
  unfold UsesP
  rw [hd]
  clear hd
  obtain ⟨b, hb⟩ : ∃ p, 2 ^ rs1 = p := ⟨_, rfl⟩
  have Bb := Lib.hid (fun X => bit_c X rs1 b h2 hb)
  have lb := pow_lt32 h2 hb
  obtain ⟨c, hc⟩ : ∃ p, 2 ^ rs2 = p := ⟨_, rfl⟩
  have Bc := Lib.hid (fun X => bit_c X rs2 c h3 hc)
  have lc := pow_lt32 h3 hc
  have HU4 : Hid (USE ⟨op, form, frm, kind, rd, rs1, rs2, rs3, rm, imm, csr⟩ = ⟨b, c, 0, 0⟩) := Lib.hid (by
    unfold USE
    subst hop
    all_goals (simp only []; rw [hb, hc]; first | rfl | (simp; done)))
  have z1 : ((op : Int) == 1) = false := by rw [beq_eq_false_iff_ne]; omega
  have z22 : ((op : Int) == 22) = false := by rw [beq_eq_false_iff_ne]; omega
  have z25 : ((op : Int) == 25) = false := by rw [beq_eq_false_iff_ne]; omega
  have hz : ((op : Int) == 2) = true := by subst hop; rfl
  skip
  clear hop
  all_goals
    clear hb hc
    go_enter Try.func41, Try.ntmps41
    have k0 := Blk.new W (useV zeroU) 68
    go_wp2_with (first
      | (go_at_call 22; (with_reducible refine (C1.out _).mono ?_); rintro e w1 ⟨rfl, hb⟩))
    have kI := (Blk.new w1 (instV ⟨op, form, frm, kind, rd, rs1, rs2, rs3, rm, imm, csr⟩) 27).alloc (.cells (useV zeroU) 68)
    have kU := Blk.new (w1.alloc (.cells (instV ⟨op, form, frm, kind, rd, rs1, rs2, rs3, rm, imm, csr⟩) 27)) (useV zeroU) 68
    have kZ := ((k0.below hb (by simp)).alloc (.cells (instV ⟨op, form, frm, kind, rd, rs1, rs2, rs3, rm, imm, csr⟩) 27)).alloc (.cells (useV zeroU) 68)
    have hw1 : W.heap.size + 1 ≤ w1.heap.size := by have := hb.size; simpa using this
    have kB := ((((Below.refl W.heap.size W).alloc (Nat.le_refl _) (.cells (useV zeroU) 68)).trans (hb.mono (by simp))).alloc (by omega) (.cells (instV ⟨op, form, frm, kind, rd, rs1, rs2, rs3, rm, imm, csr⟩) 27)).alloc (by simp; omega) (.cells (useV zeroU) 68)
    rw [World.size_alloc] at kU
    obtain ⟨Wn, hWn⟩ : ∃ Wn, (w1.alloc (.cells (instV ⟨op, form, frm, kind, rd, rs1, rs2, rs3, rm, imm, csr⟩) 27)).alloc (.cells (useV zeroU) 68) = Wn := ⟨_, rfl⟩
    show Code.wp _ _ _ _ ((w1.alloc (.cells (instV ⟨op, form, frm, kind, rd, rs1, rs2, rs3, rm, imm, csr⟩) 27)).alloc (.cells (useV zeroU) 68))
    rw [hWn] at kI kU kZ kB ⊢
    clear hWn hb k0 C1
    replace hw1 := Lib.hid hw1
    refine wp_region_sets_lit (fun S X => Blk X w1.heap.size (instV ⟨op, form, frm, kind, rd, rs1, rs2, rs3, rm, imm, csr⟩) 27 ∧ Blk X (w1.heap.size + 1) #[.int .u32 ((bif S 9 then b else 0 : Nat) : Nat), .int .u32 ((bif S 11 then c else 0 : Nat) : Nat), .int .u32 ((0 : Nat) : Nat), .int .u32 ((0 : Nat) : Nat)] 68 ∧ Blk X W.heap.size (useV zeroU) 68 ∧ Below W.heap.size W X) (by kernel_rfl) (by kernel_rfl) ⟨kI, kU, kZ, kB.drew⟩ ?_
    obtain ⟨U, V, hV, hU⟩ := worlds (fun S X => Blk X w1.heap.size (instV ⟨op, form, frm, kind, rd, rs1, rs2, rs3, rm, imm, csr⟩) 27 ∧ Blk X (w1.heap.size + 1) #[.int .u32 ((bif S 9 then b else 0 : Nat) : Nat), .int .u32 ((bif S 11 then c else 0 : Nat) : Nat), .int .u32 ((0 : Nat) : Nat), .int .u32 ((0 : Nat) : Nat)] 68 ∧ Blk X W.heap.size (useV zeroU) 68 ∧ Below W.heap.size W X)
    have kb : ∀ u, (V u).cell? ⟨w1.heap.size, 5, none⟩ = some (.int .u8 (rs1 : Nat)) := fun u => by obtain ⟨S, h, _⟩ := hV u; exact h.cell 5
    have kc : ∀ u, (V u).cell? ⟨w1.heap.size, 6, none⟩ = some (.int .u8 (rs2 : Nat)) := fun u => by obtain ⟨S, h, _⟩ := hV u; exact h.cell 6
    replace hV := Lib.hid hV
    replace hU := Lib.hid hU
    clear kI kU kZ kB
    (repeat (refine sets_quiet (fun w' => ∃ u, w' = V u) hU.out rfl (fun _ _ _ h => h) rfl ?_; intro K hK; go_big_quiet_op; first | go_big_quiet_on | (refine ⟨_, fun _ => rfl, ?_⟩; go_big_quiet_on)))
    refine sets_callv (.int .u32 (b : Nat)) rfl _ 68 [] [] [_] _ rfl rfl Try.f68 Try.func68 (by kernel_rfl) (by kernel_rfl) [_] rfl (fun S X h1 h2 h3 => ?_) ?_
    · refine (Bb.out X).mono ?_
      rintro e X2 ⟨rfl, rfl⟩
      exact ⟨rfl, h3⟩
    simp only [Act.put, List.setIfInBounds_toArray, List.set_cons_succ, List.set_cons_zero]
    (repeat (refine sets_quiet (fun w' => ∃ u, w' = V u) hU.out rfl (fun _ _ _ h => h) rfl ?_; intro K hK; go_big_quiet_op; first | go_big_quiet_on | (refine ⟨_, fun _ => rfl, ?_⟩; go_big_quiet_on)))
    refine sets_callv (.int .u32 (c : Nat)) rfl _ 68 [] [] [_] _ rfl rfl Try.f68 Try.func68 (by kernel_rfl) (by kernel_rfl) [_] rfl (fun S X h1 h2 h3 => ?_) ?_
    · refine (Bc.out X).mono ?_
      rintro e X2 ⟨rfl, rfl⟩
      exact ⟨rfl, h3⟩
    simp only [Act.put, List.setIfInBounds_toArray, List.set_cons_succ, List.set_cons_zero]
    (repeat (refine sets_quiet (fun w' => ∃ u, w' = V u) hU.out rfl (fun _ _ _ h => h) rfl ?_; intro K hK; go_big_quiet_op; first | go_big_quiet_on | (refine ⟨_, fun _ => rfl, ?_⟩; go_big_quiet_on)))
    refine sets_store rfl 28 _ _ rfl rfl ⟨w1.heap.size + 1, 0, none⟩ rfl (.int .u32 (b : Nat)) rfl rfl (by kernel_rfl) ?_ ?_
    · rintro S X h1 h2 ⟨i1, i2, i3, i4⟩
      exact ⟨⟨_, i2.cell 0⟩, i2.frozen 0, i1.other _ _ (by omega), i2.set 0 _, i3.other _ _ (by have := hw1.out; omega), i4.setCell (p := ⟨w1.heap.size + 1, 0, none⟩) (by show W.heap.size ≤ w1.heap.size + 1; have := hw1.out; omega) _⟩
    (repeat (refine sets_quiet (fun w' => ∃ u, w' = V u) hU.out rfl (fun _ _ _ h => h) rfl ?_; intro K hK; go_big_quiet_op; first | go_big_quiet_on | (refine ⟨_, fun _ => rfl, ?_⟩; go_big_quiet_on)))
    refine sets_store rfl 28 _ _ rfl rfl ⟨w1.heap.size + 1, 1, none⟩ rfl (.int .u32 (c : Nat)) rfl rfl (by kernel_rfl) ?_ ?_
    · rintro S X h1 h2 ⟨i1, i2, i3, i4⟩
      exact ⟨⟨_, i2.cell 1⟩, i2.frozen 1, i1.other _ _ (by omega), i2.set 1 _, i3.other _ _ (by have := hw1.out; omega), i4.setCell (p := ⟨w1.heap.size + 1, 1, none⟩) (by show W.heap.size ≤ w1.heap.size + 1; have := hw1.out; omega) _⟩
    rintro S X hS ⟨i1, i2, i3, i4⟩
    rw [show S 9 = true from hS 9 (by decide), show S 11 = true from hS 11 (by decide)] at i2
    simp only [cond_true] at i2
    replace i1 := Lib.hid i1
    replace i4 := Lib.hid i4
    clear hU hV kb kc
    go_wp2_with (first
      | (refine wpList_load_blk rfl _ _ rfl _ rfl _ _ _ i2 Try.underlying68 rfl (by kernel_rfl) ?_)
      | (refine wpList_store_blk rfl _ _ _ rfl _ _ rfl rfl _ _ i3 (by kernel_rfl) rfl (by simp [Value.oneCell']) ?_))
    exact bodyPost_ret (results_cell_tmp rfl _ _ W.heap.size _ _ _ rfl (i3.row _) Try.underlying68 rfl (by kernel_rfl)) rfl ⟨by simp only [Option.map_some, Option.getD_some, HU4.out]; rfl, below_setRow i4.out (Nat.le_refl _) _⟩
end Go.Proofs.Ytaddmgclnbkdgaa
