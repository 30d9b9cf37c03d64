/- decode.Decode. -/
import Derived.Test.YteelconabmfnkaaTk
import Derived.Test.YteelconabmfnkaaTn
namespace Go.Proofs.Yteelconabmfnkaa
open Go Go.RowKit
set_option maxHeartbeats 4000000
set_option maxRecDepth 100000
set_option linter.unusedVariables false
set_option linter.unusedSimpArgs false
def FILL (l w : Nat) (x : I11) : I11 := match l with
  | 1 => fLoad w x
  | 2 => fStore w x
  | 3 => fFour w x
  | 4 => fThreeM w x
  | 5 => fThree w x
  | 6 => fMode w x
  | 7 => fRd w x
  | 8 => fCsr w x
  | 9 => fCsr w x
  | _ => x
abbrev zeroI : I11 := ⟨0, 0, 0, 0, 0, 0, 0, 0, 0, 0, 0⟩
def ofRow (w : Nat) (r : R7) : I11 := FILL r.lay w ⟨r.op, r.form, r.frm, r.kind, 0, 0, 0, 0, 0, 0, 0⟩
def DEC (w : Nat) : Option I11 := (FIND w).map (ofRow w)
theorem lay_rows : ∀ r ∈ ROWS, r.lay = 1 ∨ r.lay = 2 ∨ r.lay = 3 ∨ r.lay = 4 ∨ r.lay = 5 ∨ r.lay = 6 ∨ r.lay = 7 ∨ r.lay = 8 ∨ r.lay = 9 := by
  have h : (ROWS.all fun r => r.lay == 1 || r.lay == 2 || r.lay == 3 || r.lay == 4 || r.lay == 5 || r.lay == 6 || r.lay == 7 || r.lay == 8 || r.lay == 9) = true := by decide +kernel
  intro r hr
  have := List.all_eq_true.1 h r hr
  simp only [Bool.or_eq_true, beq_iff_eq] at this
  omega
def DecP (W : World) (w : Nat) (e : Ending) (w' : World) : Prop := e = .returned (.tuple #[.agg (instV ((DEC w).getD zeroI)), .int .i64 (if (DEC w).isSome then 0 else 250)]) ∧ Below W.heap.size W w'
theorem dec_none (W : World) (w : Nat) (hw : w < 4294967296) (h : FIND w = none) : Calls Try.prog 22 #[.int .u32 w] W (DecP W w) := by
  have hd : DEC w = none := by unfold DEC; rw [h]; rfl
  have C1 : Hid (∀ X, Calls Try.prog 34 #[.int .u32 w] X fun e w' => e = .returned (.tuple #[.agg (rowV zeroR), .bool false]) ∧ Below X.heap.size X w') := Lib.hid fun X => by
    have := find_c X w hw
    unfold FindP at this
    rw [h] at this
    exact this
  clear h
  go_enter Try.func22, Try.ntmps22
  have k0 := Blk.new W (instV zeroI) 27
  go_wp2_with (first
    | (go_at_call 34; (with_reducible refine (C1.out _).mono ?_); rintro e w1 ⟨rfl, hb⟩)
    | (refine wpList_store_blk rfl _ _ _ rfl _ _ rfl rfl _ _ ((k0.below hb (by simp)).alloc _) (by kernel_rfl) rfl (by simp [Value.oneCell']) ?_))
  have k1 := ((k0.below hb (by simp)).alloc (.cells (rowV zeroR) 40)).row (instV zeroI)
  exact bodyPost_ret (results_cell_tmp rfl _ _ W.heap.size _ _ _ rfl k1 Try.underlying27 rfl (by kernel_rfl)) rfl ⟨by rw [hd]; rfl, below_setRow ((((Below.refl W.heap.size W).alloc (Nat.le_refl _) _).trans (hb.mono (by simp))).alloc (by have := hb.size; simp at this; omega) _) (Nat.le_refl _) _⟩
theorem dec_some (W : World) (w : Nat) (hw : w < 4294967296) (r : R7) (h : FIND w = some r) : Calls Try.prog 22 #[.int .u32 w] W (DecP W w) := by
  have hd : DEC w = some (ofRow w r) := by unfold DEC; rw [h]; rfl
  have hlay := lay_rows r (List.mem_of_find?_eq_some h)
  have C1 : Hid (∀ X, Calls Try.prog 34 #[.int .u32 w] X fun e w' => e = .returned (.tuple #[.agg (rowV r), .bool true]) ∧ Below X.heap.size X w') := Lib.hid fun X => by
    have := find_c X w hw
    unfold FindP at this
    rw [h] at this
    exact this
  clear h
  have HD := Lib.hid hd
  clear hd
  obtain ⟨op, form, frm, kind, mask, mtch, lay⟩ := r
  simp only [] at hlay
  go_enter Try.func22, Try.ntmps22
  have k0 := Blk.new W (instV zeroI) 27
  go_wp2_with (first
    | (go_at_call 34; (with_reducible refine (C1.out _).mono ?_); rintro e w1 ⟨rfl, hb⟩))
  have kR := (Blk.new w1 (rowV ⟨op, form, frm, kind, mask, mtch, lay⟩) 40).alloc (.cells (instV ⟨op, form, frm, kind, 0, 0, 0, 0, 0, 0, 0⟩) 27)
  have kI := Blk.new (w1.alloc (.cells (rowV ⟨op, form, frm, kind, mask, mtch, lay⟩) 40)) (instV ⟨op, form, frm, kind, 0, 0, 0, 0, 0, 0, 0⟩) 27
  have kZ := ((k0.below hb (by simp)).alloc (.cells (rowV ⟨op, form, frm, kind, mask, mtch, lay⟩) 40)).alloc (.cells (instV ⟨op, form, frm, kind, 0, 0, 0, 0, 0, 0, 0⟩) 27)
  have hw1 : W.heap.size + 1 ≤ w1.heap.size := by have := hb.size; simpa using this
  have kB := ((((Below.refl W.heap.size W).alloc (Nat.le_refl _) (.cells (instV zeroI) 27)).trans (hb.mono (by simp))).alloc (by omega) (.cells (rowV ⟨op, form, frm, kind, mask, mtch, lay⟩) 40)).alloc (by simp; omega) (.cells (instV ⟨op, form, frm, kind, 0, 0, 0, 0, 0, 0, 0⟩) 27)
  rw [World.size_alloc] at kI
  show Code.wp _ _ _ _ ((w1.alloc (.cells (rowV ⟨op, form, frm, kind, mask, mtch, lay⟩) 40)).alloc (.cells (instV ⟨op, form, frm, kind, 0, 0, 0, 0, 0, 0, 0⟩) 27))
  obtain ⟨Wn, hWn⟩ : ∃ Wn, (w1.alloc (.cells (rowV ⟨op, form, frm, kind, mask, mtch, lay⟩) 40)).alloc (.cells (instV ⟨op, form, frm, kind, 0, 0, 0, 0, 0, 0, 0⟩) 27) = Wn := ⟨_, rfl⟩
  rw [hWn] at kR kI kZ kB ⊢
  have hsz : w1.heap.size + 1 < Wn.heap.size := kI.lt
  have HR := Lib.hid kR
  have HI := Lib.hid kI
  have HZ := Lib.hid kZ
  have HB := Lib.hid kB
  clear hWn kR kI kZ kB hb k0 C1
  obtain ⟨U, V, hU⟩ : ∃ (U : Type) (V : U → World), ∀ w', ∃ u, w' = V u := ⟨World, id, fun w => ⟨w, rfl⟩⟩
  rcases hlay with rfl | rfl | rfl | rfl | rfl | rfl | rfl | rfl | rfl
  · have hix : ∀ z : World, (Instr.index 101 (.agg (fillsV (Wn.heap.size + 1) (Wn.heap.size + 1 + 1))) (.int .u8 1)).run Try.prog z = .ok (.func (.func 78) #[] #[.pointer (some ⟨Wn.heap.size + 1, 0, none⟩)]) z := fun z => by kernel_rfl
    refine wp_region_tail [_, _, _, _, _] [_] (fun S X => (S 0 = false ∧ ∃ q, X = Wn.drewN q) ∨ (S 0 = true ∧ Below Wn.heap.size Wn X ∧ X.cell? ⟨Wn.heap.size + 1, 0, none⟩ = some (.func (.func 74) #[] #[]) ∧
      X.cell? ⟨Wn.heap.size + 1 + 1, 0, none⟩ = some (.func (.func 76) #[] #[.pointer (some ⟨Wn.heap.size + 1, 0, none⟩)]))) (by kernel_rfl) (by kernel_rfl) (by kernel_rfl) (.inl ⟨rfl, 1, rfl⟩) ?_
    refine sets_call (.agg (fillsV (Wn.heap.size + 1) (Wn.heap.size + 1 + 1))) rfl 57 [] _ rfl Try.f57 Try.func57 (by kernel_rfl) (by kernel_rfl) [] rfl ?_ ?_
    · rintro S X h1 h2 (⟨h3, q, rfl⟩ | ⟨h3, _⟩)
      · refine (fills_c (Wn.drewN q)).mono ?_
        rintro e X2 ⟨rfl, e1, e2, hb⟩
        exact ⟨rfl, .inr ⟨rfl, (below_drewN (Below.refl _ _)).trans hb, e1, e2⟩⟩
      · rw [h1] at h3; cases h3
    simp only [Act.put, List.setIfInBounds_toArray, List.set_cons_succ, List.set_cons_zero]
    (refine sets_quiet (fun w' => ∃ u, w' = V u) (fun _ w' _ => hU w') rfl (fun _ _ _ h => h) rfl ?_; intro K hK; go_big_quiet_op; first | go_big_quiet_on | (refine ⟨_, fun _ => rfl, ?_⟩; go_big_quiet_on))
    refine sets_load1 rfl (fun _ _ _ h => h) 38 _ rfl ⟨w1.heap.size, 6, none⟩ rfl (.int .u8 1) ?_ _ Try.underlying38 rfl ?_
    · rintro S X h1 h2 (⟨h3, q, rfl⟩ | ⟨h3, hB, _⟩)
      · exact HR.out.cell 6
      · exact (HR.out.below hB HR.out.lt).cell 6
    simp only [Act.put, List.setIfInBounds_toArray, List.set_cons_succ, List.set_cons_zero]
    (refine sets_quiet (fun w' => ∃ u, w' = V u) (fun _ w' _ => hU w') rfl (fun _ _ _ h => h) rfl ?_; intro K hK; go_big_quiet_op; first | go_big_quiet_on | (refine ⟨_, fun _ => rfl, ?_⟩; go_big_quiet_on))
    (refine sets_quiet (fun w' => ∃ u, w' = V u) (fun _ w' _ => hU w') rfl (fun _ _ _ h => h) rfl ?_; intro K hK; go_big_quiet_op; first | go_big_quiet_on | (refine ⟨_, fun _ => rfl, ?_⟩; go_big_quiet_on))
    rintro S X hS (⟨h3, _⟩ | ⟨h3, hB, e1, e2⟩)
    · have := hS 0 (by decide); rw [h3] at this; cases this
    · have kX := HI.out.below hB hsz
      have CX := Lib.hid (fill_load X (w1.heap.size + 1) (Wn.heap.size + 1) (Wn.heap.size + 1 + 1) _ w kX hw e1)
      have HBX := Lib.hid (HB.out.trans (hB.mono HB.out.size))
      have HZX := Lib.hid (HZ.out.below hB HZ.out.lt)
      clear hB e1 e2 kX
      go_wp2_with (first
        | (go_at_call 78; (with_reducible refine CX.out.mono ?_); rintro e X2 ⟨rfl, k2, hg⟩; clear CX)
        | (refine wpList_load_blk rfl _ _ rfl _ rfl _ _ _ k2 Try.underlying27 rfl (by kernel_rfl) ?_)
        | (refine wpList_store_blk rfl _ _ _ rfl _ _ rfl rfl _ _ ((hg.block _ HZX.out.lt (by simp; omega)).trans HZX.out) (by kernel_rfl) rfl (by simp [Value.oneCell']) ?_))
      have kz : Blk X2 W.heap.size (instV zeroI) 27 := (hg.block _ HZX.out.lt (by simp; omega)).trans HZX.out
      refine bodyPost_ret (results_cell_tmp rfl _ _ W.heap.size _ _ _ rfl (kz.row _) Try.underlying27 rfl (by kernel_rfl)) rfl ⟨by rw [HD.out]; rfl, below_setRow (HBX.out.grown hg HBX.out.size (fun k hk => by cases hk; omega)) (Nat.le_refl _) _⟩
  · have hix : ∀ z : World, (Instr.index 101 (.agg (fillsV (Wn.heap.size + 1) (Wn.heap.size + 1 + 1))) (.int .u8 2)).run Try.prog z = .ok (.func (.func 79) #[] #[]) z := fun z => by kernel_rfl
    refine wp_region_tail [_, _, _, _, _] [_] (fun S X => (S 0 = false ∧ ∃ q, X = Wn.drewN q) ∨ (S 0 = true ∧ Below Wn.heap.size Wn X ∧ X.cell? ⟨Wn.heap.size + 1, 0, none⟩ = some (.func (.func 74) #[] #[]) ∧
      X.cell? ⟨Wn.heap.size + 1 + 1, 0, none⟩ = some (.func (.func 76) #[] #[.pointer (some ⟨Wn.heap.size + 1, 0, none⟩)]))) (by kernel_rfl) (by kernel_rfl) (by kernel_rfl) (.inl ⟨rfl, 1, rfl⟩) ?_
    refine sets_call (.agg (fillsV (Wn.heap.size + 1) (Wn.heap.size + 1 + 1))) rfl 57 [] _ rfl Try.f57 Try.func57 (by kernel_rfl) (by kernel_rfl) [] rfl ?_ ?_
    · rintro S X h1 h2 (⟨h3, q, rfl⟩ | ⟨h3, _⟩)
      · refine (fills_c (Wn.drewN q)).mono ?_
        rintro e X2 ⟨rfl, e1, e2, hb⟩
        exact ⟨rfl, .inr ⟨rfl, (below_drewN (Below.refl _ _)).trans hb, e1, e2⟩⟩
      · rw [h1] at h3; cases h3
    simp only [Act.put, List.setIfInBounds_toArray, List.set_cons_succ, List.set_cons_zero]
    (refine sets_quiet (fun w' => ∃ u, w' = V u) (fun _ w' _ => hU w') rfl (fun _ _ _ h => h) rfl ?_; intro K hK; go_big_quiet_op; first | go_big_quiet_on | (refine ⟨_, fun _ => rfl, ?_⟩; go_big_quiet_on))
    refine sets_load1 rfl (fun _ _ _ h => h) 38 _ rfl ⟨w1.heap.size, 6, none⟩ rfl (.int .u8 2) ?_ _ Try.underlying38 rfl ?_
    · rintro S X h1 h2 (⟨h3, q, rfl⟩ | ⟨h3, hB, _⟩)
      · exact HR.out.cell 6
      · exact (HR.out.below hB HR.out.lt).cell 6
    simp only [Act.put, List.setIfInBounds_toArray, List.set_cons_succ, List.set_cons_zero]
    (refine sets_quiet (fun w' => ∃ u, w' = V u) (fun _ w' _ => hU w') rfl (fun _ _ _ h => h) rfl ?_; intro K hK; go_big_quiet_op; first | go_big_quiet_on | (refine ⟨_, fun _ => rfl, ?_⟩; go_big_quiet_on))
    (refine sets_quiet (fun w' => ∃ u, w' = V u) (fun _ w' _ => hU w') rfl (fun _ _ _ h => h) rfl ?_; intro K hK; go_big_quiet_op; first | go_big_quiet_on | (refine ⟨_, fun _ => rfl, ?_⟩; go_big_quiet_on))
    rintro S X hS (⟨h3, _⟩ | ⟨h3, hB, e1, e2⟩)
    · have := hS 0 (by decide); rw [h3] at this; cases this
    · have kX := HI.out.below hB hsz
      have CX := Lib.hid (fill_store X (w1.heap.size + 1) _ w kX hw)
      have HBX := Lib.hid (HB.out.trans (hB.mono HB.out.size))
      have HZX := Lib.hid (HZ.out.below hB HZ.out.lt)
      clear hB e1 e2 kX
      go_wp2_with (first
        | (go_at_call 79; (with_reducible refine CX.out.mono ?_); rintro e X2 ⟨rfl, k2, hg⟩; clear CX)
        | (refine wpList_load_blk rfl _ _ rfl _ rfl _ _ _ k2 Try.underlying27 rfl (by kernel_rfl) ?_)
        | (refine wpList_store_blk rfl _ _ _ rfl _ _ rfl rfl _ _ ((hg.block _ HZX.out.lt (by simp; omega)).trans HZX.out) (by kernel_rfl) rfl (by simp [Value.oneCell']) ?_))
      have kz : Blk X2 W.heap.size (instV zeroI) 27 := (hg.block _ HZX.out.lt (by simp; omega)).trans HZX.out
      refine bodyPost_ret (results_cell_tmp rfl _ _ W.heap.size _ _ _ rfl (kz.row _) Try.underlying27 rfl (by kernel_rfl)) rfl ⟨by rw [HD.out]; rfl, below_setRow (HBX.out.grown hg HBX.out.size (fun k hk => by cases hk; omega)) (Nat.le_refl _) _⟩
  · have hix : ∀ z : World, (Instr.index 101 (.agg (fillsV (Wn.heap.size + 1) (Wn.heap.size + 1 + 1))) (.int .u8 3)).run Try.prog z = .ok (.func (.func 80) #[] #[.pointer (some ⟨Wn.heap.size + 1 + 1, 0, none⟩)]) z := fun z => by kernel_rfl
    refine wp_region_tail [_, _, _, _, _] [_] (fun S X => (S 0 = false ∧ ∃ q, X = Wn.drewN q) ∨ (S 0 = true ∧ Below Wn.heap.size Wn X ∧ X.cell? ⟨Wn.heap.size + 1, 0, none⟩ = some (.func (.func 74) #[] #[]) ∧
      X.cell? ⟨Wn.heap.size + 1 + 1, 0, none⟩ = some (.func (.func 76) #[] #[.pointer (some ⟨Wn.heap.size + 1, 0, none⟩)]))) (by kernel_rfl) (by kernel_rfl) (by kernel_rfl) (.inl ⟨rfl, 1, rfl⟩) ?_
    refine sets_call (.agg (fillsV (Wn.heap.size + 1) (Wn.heap.size + 1 + 1))) rfl 57 [] _ rfl Try.f57 Try.func57 (by kernel_rfl) (by kernel_rfl) [] rfl ?_ ?_
    · rintro S X h1 h2 (⟨h3, q, rfl⟩ | ⟨h3, _⟩)
      · refine (fills_c (Wn.drewN q)).mono ?_
        rintro e X2 ⟨rfl, e1, e2, hb⟩
        exact ⟨rfl, .inr ⟨rfl, (below_drewN (Below.refl _ _)).trans hb, e1, e2⟩⟩
      · rw [h1] at h3; cases h3
    simp only [Act.put, List.setIfInBounds_toArray, List.set_cons_succ, List.set_cons_zero]
    (refine sets_quiet (fun w' => ∃ u, w' = V u) (fun _ w' _ => hU w') rfl (fun _ _ _ h => h) rfl ?_; intro K hK; go_big_quiet_op; first | go_big_quiet_on | (refine ⟨_, fun _ => rfl, ?_⟩; go_big_quiet_on))
    refine sets_load1 rfl (fun _ _ _ h => h) 38 _ rfl ⟨w1.heap.size, 6, none⟩ rfl (.int .u8 3) ?_ _ Try.underlying38 rfl ?_
    · rintro S X h1 h2 (⟨h3, q, rfl⟩ | ⟨h3, hB, _⟩)
      · exact HR.out.cell 6
      · exact (HR.out.below hB HR.out.lt).cell 6
    simp only [Act.put, List.setIfInBounds_toArray, List.set_cons_succ, List.set_cons_zero]
    (refine sets_quiet (fun w' => ∃ u, w' = V u) (fun _ w' _ => hU w') rfl (fun _ _ _ h => h) rfl ?_; intro K hK; go_big_quiet_op; first | go_big_quiet_on | (refine ⟨_, fun _ => rfl, ?_⟩; go_big_quiet_on))
    (refine sets_quiet (fun w' => ∃ u, w' = V u) (fun _ w' _ => hU w') rfl (fun _ _ _ h => h) rfl ?_; intro K hK; go_big_quiet_op; first | go_big_quiet_on | (refine ⟨_, fun _ => rfl, ?_⟩; go_big_quiet_on))
    rintro S X hS (⟨h3, _⟩ | ⟨h3, hB, e1, e2⟩)
    · have := hS 0 (by decide); rw [h3] at this; cases this
    · have kX := HI.out.below hB hsz
      have CX := Lib.hid (fill_four X (w1.heap.size + 1) (Wn.heap.size + 1) (Wn.heap.size + 1 + 1) _ w kX hw e1 e2)
      have HBX := Lib.hid (HB.out.trans (hB.mono HB.out.size))
      have HZX := Lib.hid (HZ.out.below hB HZ.out.lt)
      clear hB e1 e2 kX
      go_wp2_with (first
        | (go_at_call 80; (with_reducible refine CX.out.mono ?_); rintro e X2 ⟨rfl, k2, hg⟩; clear CX)
        | (refine wpList_load_blk rfl _ _ rfl _ rfl _ _ _ k2 Try.underlying27 rfl (by kernel_rfl) ?_)
        | (refine wpList_store_blk rfl _ _ _ rfl _ _ rfl rfl _ _ ((hg.block _ HZX.out.lt (by simp; omega)).trans HZX.out) (by kernel_rfl) rfl (by simp [Value.oneCell']) ?_))
      have kz : Blk X2 W.heap.size (instV zeroI) 27 := (hg.block _ HZX.out.lt (by simp; omega)).trans HZX.out
      refine bodyPost_ret (results_cell_tmp rfl _ _ W.heap.size _ _ _ rfl (kz.row _) Try.underlying27 rfl (by kernel_rfl)) rfl ⟨by rw [HD.out]; rfl, below_setRow (HBX.out.grown hg HBX.out.size (fun k hk => by cases hk; omega)) (Nat.le_refl _) _⟩
  · have hix : ∀ z : World, (Instr.index 101 (.agg (fillsV (Wn.heap.size + 1) (Wn.heap.size + 1 + 1))) (.int .u8 4)).run Try.prog z = .ok (.func (.func 81) #[] #[.pointer (some ⟨Wn.heap.size + 1 + 1, 0, none⟩)]) z := fun z => by kernel_rfl
    refine wp_region_tail [_, _, _, _, _] [_] (fun S X => (S 0 = false ∧ ∃ q, X = Wn.drewN q) ∨ (S 0 = true ∧ Below Wn.heap.size Wn X ∧ X.cell? ⟨Wn.heap.size + 1, 0, none⟩ = some (.func (.func 74) #[] #[]) ∧
      X.cell? ⟨Wn.heap.size + 1 + 1, 0, none⟩ = some (.func (.func 76) #[] #[.pointer (some ⟨Wn.heap.size + 1, 0, none⟩)]))) (by kernel_rfl) (by kernel_rfl) (by kernel_rfl) (.inl ⟨rfl, 1, rfl⟩) ?_
    refine sets_call (.agg (fillsV (Wn.heap.size + 1) (Wn.heap.size + 1 + 1))) rfl 57 [] _ rfl Try.f57 Try.func57 (by kernel_rfl) (by kernel_rfl) [] rfl ?_ ?_
    · rintro S X h1 h2 (⟨h3, q, rfl⟩ | ⟨h3, _⟩)
      · refine (fills_c (Wn.drewN q)).mono ?_
        rintro e X2 ⟨rfl, e1, e2, hb⟩
        exact ⟨rfl, .inr ⟨rfl, (below_drewN (Below.refl _ _)).trans hb, e1, e2⟩⟩
      · rw [h1] at h3; cases h3
    simp only [Act.put, List.setIfInBounds_toArray, List.set_cons_succ, List.set_cons_zero]
    (refine sets_quiet (fun w' => ∃ u, w' = V u) (fun _ w' _ => hU w') rfl (fun _ _ _ h => h) rfl ?_; intro K hK; go_big_quiet_op; first | go_big_quiet_on | (refine ⟨_, fun _ => rfl, ?_⟩; go_big_quiet_on))
    refine sets_load1 rfl (fun _ _ _ h => h) 38 _ rfl ⟨w1.heap.size, 6, none⟩ rfl (.int .u8 4) ?_ _ Try.underlying38 rfl ?_
    · rintro S X h1 h2 (⟨h3, q, rfl⟩ | ⟨h3, hB, _⟩)
      · exact HR.out.cell 6
      · exact (HR.out.below hB HR.out.lt).cell 6
    simp only [Act.put, List.setIfInBounds_toArray, List.set_cons_succ, List.set_cons_zero]
    (refine sets_quiet (fun w' => ∃ u, w' = V u) (fun _ w' _ => hU w') rfl (fun _ _ _ h => h) rfl ?_; intro K hK; go_big_quiet_op; first | go_big_quiet_on | (refine ⟨_, fun _ => rfl, ?_⟩; go_big_quiet_on))
    (refine sets_quiet (fun w' => ∃ u, w' = V u) (fun _ w' _ => hU w') rfl (fun _ _ _ h => h) rfl ?_; intro K hK; go_big_quiet_op; first | go_big_quiet_on | (refine ⟨_, fun _ => rfl, ?_⟩; go_big_quiet_on))
    rintro S X hS (⟨h3, _⟩ | ⟨h3, hB, e1, e2⟩)
    · have := hS 0 (by decide); rw [h3] at this; cases this
    · have kX := HI.out.below hB hsz
      have CX := Lib.hid (fill_threeM X (w1.heap.size + 1) (Wn.heap.size + 1) (Wn.heap.size + 1 + 1) _ w kX hw e1 e2)
      have HBX := Lib.hid (HB.out.trans (hB.mono HB.out.size))
      have HZX := Lib.hid (HZ.out.below hB HZ.out.lt)
      clear hB e1 e2 kX
      go_wp2_with (first
        | (go_at_call 81; (with_reducible refine CX.out.mono ?_); rintro e X2 ⟨rfl, k2, hg⟩; clear CX)
        | (refine wpList_load_blk rfl _ _ rfl _ rfl _ _ _ k2 Try.underlying27 rfl (by kernel_rfl) ?_)
        | (refine wpList_store_blk rfl _ _ _ rfl _ _ rfl rfl _ _ ((hg.block _ HZX.out.lt (by simp; omega)).trans HZX.out) (by kernel_rfl) rfl (by simp [Value.oneCell']) ?_))
      have kz : Blk X2 W.heap.size (instV zeroI) 27 := (hg.block _ HZX.out.lt (by simp; omega)).trans HZX.out
      refine bodyPost_ret (results_cell_tmp rfl _ _ W.heap.size _ _ _ rfl (kz.row _) Try.underlying27 rfl (by kernel_rfl)) rfl ⟨by rw [HD.out]; rfl, below_setRow (HBX.out.grown hg HBX.out.size (fun k hk => by cases hk; omega)) (Nat.le_refl _) _⟩
  · have hix : ∀ z : World, (Instr.index 101 (.agg (fillsV (Wn.heap.size + 1) (Wn.heap.size + 1 + 1))) (.int .u8 5)).run Try.prog z = .ok (.func (.func 82) #[] #[.pointer (some ⟨Wn.heap.size + 1, 0, none⟩)]) z := fun z => by kernel_rfl
    refine wp_region_tail [_, _, _, _, _] [_] (fun S X => (S 0 = false ∧ ∃ q, X = Wn.drewN q) ∨ (S 0 = true ∧ Below Wn.heap.size Wn X ∧ X.cell? ⟨Wn.heap.size + 1, 0, none⟩ = some (.func (.func 74) #[] #[]) ∧
      X.cell? ⟨Wn.heap.size + 1 + 1, 0, none⟩ = some (.func (.func 76) #[] #[.pointer (some ⟨Wn.heap.size + 1, 0, none⟩)]))) (by kernel_rfl) (by kernel_rfl) (by kernel_rfl) (.inl ⟨rfl, 1, rfl⟩) ?_
    refine sets_call (.agg (fillsV (Wn.heap.size + 1) (Wn.heap.size + 1 + 1))) rfl 57 [] _ rfl Try.f57 Try.func57 (by kernel_rfl) (by kernel_rfl) [] rfl ?_ ?_
    · rintro S X h1 h2 (⟨h3, q, rfl⟩ | ⟨h3, _⟩)
      · refine (fills_c (Wn.drewN q)).mono ?_
        rintro e X2 ⟨rfl, e1, e2, hb⟩
        exact ⟨rfl, .inr ⟨rfl, (below_drewN (Below.refl _ _)).trans hb, e1, e2⟩⟩
      · rw [h1] at h3; cases h3
    simp only [Act.put, List.setIfInBounds_toArray, List.set_cons_succ, List.set_cons_zero]
    (refine sets_quiet (fun w' => ∃ u, w' = V u) (fun _ w' _ => hU w') rfl (fun _ _ _ h => h) rfl ?_; intro K hK; go_big_quiet_op; first | go_big_quiet_on | (refine ⟨_, fun _ => rfl, ?_⟩; go_big_quiet_on))
    refine sets_load1 rfl (fun _ _ _ h => h) 38 _ rfl ⟨w1.heap.size, 6, none⟩ rfl (.int .u8 5) ?_ _ Try.underlying38 rfl ?_
    · rintro S X h1 h2 (⟨h3, q, rfl⟩ | ⟨h3, hB, _⟩)
      · exact HR.out.cell 6
      · exact (HR.out.below hB HR.out.lt).cell 6
    simp only [Act.put, List.setIfInBounds_toArray, List.set_cons_succ, List.set_cons_zero]
    (refine sets_quiet (fun w' => ∃ u, w' = V u) (fun _ w' _ => hU w') rfl (fun _ _ _ h => h) rfl ?_; intro K hK; go_big_quiet_op; first | go_big_quiet_on | (refine ⟨_, fun _ => rfl, ?_⟩; go_big_quiet_on))
    (refine sets_quiet (fun w' => ∃ u, w' = V u) (fun _ w' _ => hU w') rfl (fun _ _ _ h => h) rfl ?_; intro K hK; go_big_quiet_op; first | go_big_quiet_on | (refine ⟨_, fun _ => rfl, ?_⟩; go_big_quiet_on))
    rintro S X hS (⟨h3, _⟩ | ⟨h3, hB, e1, e2⟩)
    · have := hS 0 (by decide); rw [h3] at this; cases this
    · have kX := HI.out.below hB hsz
      have CX := Lib.hid (fill_three X (w1.heap.size + 1) (Wn.heap.size + 1) (Wn.heap.size + 1 + 1) _ w kX hw e1)
      have HBX := Lib.hid (HB.out.trans (hB.mono HB.out.size))
      have HZX := Lib.hid (HZ.out.below hB HZ.out.lt)
      clear hB e1 e2 kX
      go_wp2_with (first
        | (go_at_call 82; (with_reducible refine CX.out.mono ?_); rintro e X2 ⟨rfl, k2, hg⟩; clear CX)
        | (refine wpList_load_blk rfl _ _ rfl _ rfl _ _ _ k2 Try.underlying27 rfl (by kernel_rfl) ?_)
        | (refine wpList_store_blk rfl _ _ _ rfl _ _ rfl rfl _ _ ((hg.block _ HZX.out.lt (by simp; omega)).trans HZX.out) (by kernel_rfl) rfl (by simp [Value.oneCell']) ?_))
      have kz : Blk X2 W.heap.size (instV zeroI) 27 := (hg.block _ HZX.out.lt (by simp; omega)).trans HZX.out
      refine bodyPost_ret (results_cell_tmp rfl _ _ W.heap.size _ _ _ rfl (kz.row _) Try.underlying27 rfl (by kernel_rfl)) rfl ⟨by rw [HD.out]; rfl, below_setRow (HBX.out.grown hg HBX.out.size (fun k hk => by cases hk; omega)) (Nat.le_refl _) _⟩
  · have hix : ∀ z : World, (Instr.index 101 (.agg (fillsV (Wn.heap.size + 1) (Wn.heap.size + 1 + 1))) (.int .u8 6)).run Try.prog z = .ok (.func (.func 76) #[] #[.pointer (some ⟨Wn.heap.size + 1, 0, none⟩)]) z := fun z => by kernel_rfl
    refine wp_region_tail [_, _, _, _, _] [_] (fun S X => (S 0 = false ∧ ∃ q, X = Wn.drewN q) ∨ (S 0 = true ∧ Below Wn.heap.size Wn X ∧ X.cell? ⟨Wn.heap.size + 1, 0, none⟩ = some (.func (.func 74) #[] #[]) ∧
      X.cell? ⟨Wn.heap.size + 1 + 1, 0, none⟩ = some (.func (.func 76) #[] #[.pointer (some ⟨Wn.heap.size + 1, 0, none⟩)]))) (by kernel_rfl) (by kernel_rfl) (by kernel_rfl) (.inl ⟨rfl, 1, rfl⟩) ?_
    refine sets_call (.agg (fillsV (Wn.heap.size + 1) (Wn.heap.size + 1 + 1))) rfl 57 [] _ rfl Try.f57 Try.func57 (by kernel_rfl) (by kernel_rfl) [] rfl ?_ ?_
    · rintro S X h1 h2 (⟨h3, q, rfl⟩ | ⟨h3, _⟩)
      · refine (fills_c (Wn.drewN q)).mono ?_
        rintro e X2 ⟨rfl, e1, e2, hb⟩
        exact ⟨rfl, .inr ⟨rfl, (below_drewN (Below.refl _ _)).trans hb, e1, e2⟩⟩
      · rw [h1] at h3; cases h3
    simp only [Act.put, List.setIfInBounds_toArray, List.set_cons_succ, List.set_cons_zero]
    (refine sets_quiet (fun w' => ∃ u, w' = V u) (fun _ w' _ => hU w') rfl (fun _ _ _ h => h) rfl ?_; intro K hK; go_big_quiet_op; first | go_big_quiet_on | (refine ⟨_, fun _ => rfl, ?_⟩; go_big_quiet_on))
    refine sets_load1 rfl (fun _ _ _ h => h) 38 _ rfl ⟨w1.heap.size, 6, none⟩ rfl (.int .u8 6) ?_ _ Try.underlying38 rfl ?_
    · rintro S X h1 h2 (⟨h3, q, rfl⟩ | ⟨h3, hB, _⟩)
      · exact HR.out.cell 6
      · exact (HR.out.below hB HR.out.lt).cell 6
    simp only [Act.put, List.setIfInBounds_toArray, List.set_cons_succ, List.set_cons_zero]
    (refine sets_quiet (fun w' => ∃ u, w' = V u) (fun _ w' _ => hU w') rfl (fun _ _ _ h => h) rfl ?_; intro K hK; go_big_quiet_op; first | go_big_quiet_on | (refine ⟨_, fun _ => rfl, ?_⟩; go_big_quiet_on))
    (refine sets_quiet (fun w' => ∃ u, w' = V u) (fun _ w' _ => hU w') rfl (fun _ _ _ h => h) rfl ?_; intro K hK; go_big_quiet_op; first | go_big_quiet_on | (refine ⟨_, fun _ => rfl, ?_⟩; go_big_quiet_on))
    rintro S X hS (⟨h3, _⟩ | ⟨h3, hB, e1, e2⟩)
    · have := hS 0 (by decide); rw [h3] at this; cases this
    · have kX := HI.out.below hB hsz
      have CX := Lib.hid (fill_mode X (w1.heap.size + 1) (Wn.heap.size + 1) (Wn.heap.size + 1 + 1) _ w kX hw e1)
      have HBX := Lib.hid (HB.out.trans (hB.mono HB.out.size))
      have HZX := Lib.hid (HZ.out.below hB HZ.out.lt)
      clear hB e1 e2 kX
      go_wp2_with (first
        | (go_at_call 76; (with_reducible refine CX.out.mono ?_); rintro e X2 ⟨rfl, k2, hg⟩; clear CX)
        | (refine wpList_load_blk rfl _ _ rfl _ rfl _ _ _ k2 Try.underlying27 rfl (by kernel_rfl) ?_)
        | (refine wpList_store_blk rfl _ _ _ rfl _ _ rfl rfl _ _ ((hg.block _ HZX.out.lt (by simp; omega)).trans HZX.out) (by kernel_rfl) rfl (by simp [Value.oneCell']) ?_))
      have kz : Blk X2 W.heap.size (instV zeroI) 27 := (hg.block _ HZX.out.lt (by simp; omega)).trans HZX.out
      refine bodyPost_ret (results_cell_tmp rfl _ _ W.heap.size _ _ _ rfl (kz.row _) Try.underlying27 rfl (by kernel_rfl)) rfl ⟨by rw [HD.out]; rfl, below_setRow (HBX.out.grown hg HBX.out.size (fun k hk => by cases hk; omega)) (Nat.le_refl _) _⟩
  · have hix : ∀ z : World, (Instr.index 101 (.agg (fillsV (Wn.heap.size + 1) (Wn.heap.size + 1 + 1))) (.int .u8 7)).run Try.prog z = .ok (.func (.func 74) #[] #[]) z := fun z => by kernel_rfl
    refine wp_region_tail [_, _, _, _, _] [_] (fun S X => (S 0 = false ∧ ∃ q, X = Wn.drewN q) ∨ (S 0 = true ∧ Below Wn.heap.size Wn X ∧ X.cell? ⟨Wn.heap.size + 1, 0, none⟩ = some (.func (.func 74) #[] #[]) ∧
      X.cell? ⟨Wn.heap.size + 1 + 1, 0, none⟩ = some (.func (.func 76) #[] #[.pointer (some ⟨Wn.heap.size + 1, 0, none⟩)]))) (by kernel_rfl) (by kernel_rfl) (by kernel_rfl) (.inl ⟨rfl, 1, rfl⟩) ?_
    refine sets_call (.agg (fillsV (Wn.heap.size + 1) (Wn.heap.size + 1 + 1))) rfl 57 [] _ rfl Try.f57 Try.func57 (by kernel_rfl) (by kernel_rfl) [] rfl ?_ ?_
    · rintro S X h1 h2 (⟨h3, q, rfl⟩ | ⟨h3, _⟩)
      · refine (fills_c (Wn.drewN q)).mono ?_
        rintro e X2 ⟨rfl, e1, e2, hb⟩
        exact ⟨rfl, .inr ⟨rfl, (below_drewN (Below.refl _ _)).trans hb, e1, e2⟩⟩
      · rw [h1] at h3; cases h3
    simp only [Act.put, List.setIfInBounds_toArray, List.set_cons_succ, List.set_cons_zero]
    (refine sets_quiet (fun w' => ∃ u, w' = V u) (fun _ w' _ => hU w') rfl (fun _ _ _ h => h) rfl ?_; intro K hK; go_big_quiet_op; first | go_big_quiet_on | (refine ⟨_, fun _ => rfl, ?_⟩; go_big_quiet_on))
    refine sets_load1 rfl (fun _ _ _ h => h) 38 _ rfl ⟨w1.heap.size, 6, none⟩ rfl (.int .u8 7) ?_ _ Try.underlying38 rfl ?_
    · rintro S X h1 h2 (⟨h3, q, rfl⟩ | ⟨h3, hB, _⟩)
      · exact HR.out.cell 6
      · exact (HR.out.below hB HR.out.lt).cell 6
    simp only [Act.put, List.setIfInBounds_toArray, List.set_cons_succ, List.set_cons_zero]
    (refine sets_quiet (fun w' => ∃ u, w' = V u) (fun _ w' _ => hU w') rfl (fun _ _ _ h => h) rfl ?_; intro K hK; go_big_quiet_op; first | go_big_quiet_on | (refine ⟨_, fun _ => rfl, ?_⟩; go_big_quiet_on))
    (refine sets_quiet (fun w' => ∃ u, w' = V u) (fun _ w' _ => hU w') rfl (fun _ _ _ h => h) rfl ?_; intro K hK; go_big_quiet_op; first | go_big_quiet_on | (refine ⟨_, fun _ => rfl, ?_⟩; go_big_quiet_on))
    rintro S X hS (⟨h3, _⟩ | ⟨h3, hB, e1, e2⟩)
    · have := hS 0 (by decide); rw [h3] at this; cases this
    · have kX := HI.out.below hB hsz
      have CX := Lib.hid (fill_rd X (w1.heap.size + 1) _ w kX hw)
      have HBX := Lib.hid (HB.out.trans (hB.mono HB.out.size))
      have HZX := Lib.hid (HZ.out.below hB HZ.out.lt)
      clear hB e1 e2 kX
      go_wp2_with (first
        | (go_at_call 74; (with_reducible refine CX.out.mono ?_); rintro e X2 ⟨rfl, k2, hg⟩; clear CX)
        | (refine wpList_load_blk rfl _ _ rfl _ rfl _ _ _ k2 Try.underlying27 rfl (by kernel_rfl) ?_)
        | (refine wpList_store_blk rfl _ _ _ rfl _ _ rfl rfl _ _ ((hg.block _ HZX.out.lt (by simp; omega)).trans HZX.out) (by kernel_rfl) rfl (by simp [Value.oneCell']) ?_))
      have kz : Blk X2 W.heap.size (instV zeroI) 27 := (hg.block _ HZX.out.lt (by simp; omega)).trans HZX.out
      refine bodyPost_ret (results_cell_tmp rfl _ _ W.heap.size _ _ _ rfl (kz.row _) Try.underlying27 rfl (by kernel_rfl)) rfl ⟨by rw [HD.out]; rfl, below_setRow (HBX.out.grown hg HBX.out.size (fun k hk => by cases hk; omega)) (Nat.le_refl _) _⟩
  · have hix : ∀ z : World, (Instr.index 101 (.agg (fillsV (Wn.heap.size + 1) (Wn.heap.size + 1 + 1))) (.int .u8 8)).run Try.prog z = .ok (.func (.func 77) #[] #[.pointer (some ⟨Wn.heap.size + 1, 0, none⟩)]) z := fun z => by kernel_rfl
    refine wp_region_tail [_, _, _, _, _] [_] (fun S X => (S 0 = false ∧ ∃ q, X = Wn.drewN q) ∨ (S 0 = true ∧ Below Wn.heap.size Wn X ∧ X.cell? ⟨Wn.heap.size + 1, 0, none⟩ = some (.func (.func 74) #[] #[]) ∧
      X.cell? ⟨Wn.heap.size + 1 + 1, 0, none⟩ = some (.func (.func 76) #[] #[.pointer (some ⟨Wn.heap.size + 1, 0, none⟩)]))) (by kernel_rfl) (by kernel_rfl) (by kernel_rfl) (.inl ⟨rfl, 1, rfl⟩) ?_
    refine sets_call (.agg (fillsV (Wn.heap.size + 1) (Wn.heap.size + 1 + 1))) rfl 57 [] _ rfl Try.f57 Try.func57 (by kernel_rfl) (by kernel_rfl) [] rfl ?_ ?_
    · rintro S X h1 h2 (⟨h3, q, rfl⟩ | ⟨h3, _⟩)
      · refine (fills_c (Wn.drewN q)).mono ?_
        rintro e X2 ⟨rfl, e1, e2, hb⟩
        exact ⟨rfl, .inr ⟨rfl, (below_drewN (Below.refl _ _)).trans hb, e1, e2⟩⟩
      · rw [h1] at h3; cases h3
    simp only [Act.put, List.setIfInBounds_toArray, List.set_cons_succ, List.set_cons_zero]
    (refine sets_quiet (fun w' => ∃ u, w' = V u) (fun _ w' _ => hU w') rfl (fun _ _ _ h => h) rfl ?_; intro K hK; go_big_quiet_op; first | go_big_quiet_on | (refine ⟨_, fun _ => rfl, ?_⟩; go_big_quiet_on))
    refine sets_load1 rfl (fun _ _ _ h => h) 38 _ rfl ⟨w1.heap.size, 6, none⟩ rfl (.int .u8 8) ?_ _ Try.underlying38 rfl ?_
    · rintro S X h1 h2 (⟨h3, q, rfl⟩ | ⟨h3, hB, _⟩)
      · exact HR.out.cell 6
      · exact (HR.out.below hB HR.out.lt).cell 6
    simp only [Act.put, List.setIfInBounds_toArray, List.set_cons_succ, List.set_cons_zero]
    (refine sets_quiet (fun w' => ∃ u, w' = V u) (fun _ w' _ => hU w') rfl (fun _ _ _ h => h) rfl ?_; intro K hK; go_big_quiet_op; first | go_big_quiet_on | (refine ⟨_, fun _ => rfl, ?_⟩; go_big_quiet_on))
    (refine sets_quiet (fun w' => ∃ u, w' = V u) (fun _ w' _ => hU w') rfl (fun _ _ _ h => h) rfl ?_; intro K hK; go_big_quiet_op; first | go_big_quiet_on | (refine ⟨_, fun _ => rfl, ?_⟩; go_big_quiet_on))
    rintro S X hS (⟨h3, _⟩ | ⟨h3, hB, e1, e2⟩)
    · have := hS 0 (by decide); rw [h3] at this; cases this
    · have kX := HI.out.below hB hsz
      have CX := Lib.hid (fill_csr X (w1.heap.size + 1) (Wn.heap.size + 1) (Wn.heap.size + 1 + 1) _ w kX hw e1)
      have HBX := Lib.hid (HB.out.trans (hB.mono HB.out.size))
      have HZX := Lib.hid (HZ.out.below hB HZ.out.lt)
      clear hB e1 e2 kX
      go_wp2_with (first
        | (go_at_call 77; (with_reducible refine CX.out.mono ?_); rintro e X2 ⟨rfl, k2, hg⟩; clear CX)
        | (refine wpList_load_blk rfl _ _ rfl _ rfl _ _ _ k2 Try.underlying27 rfl (by kernel_rfl) ?_)
        | (refine wpList_store_blk rfl _ _ _ rfl _ _ rfl rfl _ _ ((hg.block _ HZX.out.lt (by simp; omega)).trans HZX.out) (by kernel_rfl) rfl (by simp [Value.oneCell']) ?_))
      have kz : Blk X2 W.heap.size (instV zeroI) 27 := (hg.block _ HZX.out.lt (by simp; omega)).trans HZX.out
      refine bodyPost_ret (results_cell_tmp rfl _ _ W.heap.size _ _ _ rfl (kz.row _) Try.underlying27 rfl (by kernel_rfl)) rfl ⟨by rw [HD.out]; rfl, below_setRow (HBX.out.grown hg HBX.out.size (fun k hk => by cases hk; omega)) (Nat.le_refl _) _⟩
  · have hix : ∀ z : World, (Instr.index 101 (.agg (fillsV (Wn.heap.size + 1) (Wn.heap.size + 1 + 1))) (.int .u8 9)).run Try.prog z = .ok (.func (.func 77) #[] #[.pointer (some ⟨Wn.heap.size + 1, 0, none⟩)]) z := fun z => by kernel_rfl
    refine wp_region_tail [_, _, _, _, _] [_] (fun S X => (S 0 = false ∧ ∃ q, X = Wn.drewN q) ∨ (S 0 = true ∧ Below Wn.heap.size Wn X ∧ X.cell? ⟨Wn.heap.size + 1, 0, none⟩ = some (.func (.func 74) #[] #[]) ∧
      X.cell? ⟨Wn.heap.size + 1 + 1, 0, none⟩ = some (.func (.func 76) #[] #[.pointer (some ⟨Wn.heap.size + 1, 0, none⟩)]))) (by kernel_rfl) (by kernel_rfl) (by kernel_rfl) (.inl ⟨rfl, 1, rfl⟩) ?_
    refine sets_call (.agg (fillsV (Wn.heap.size + 1) (Wn.heap.size + 1 + 1))) rfl 57 [] _ rfl Try.f57 Try.func57 (by kernel_rfl) (by kernel_rfl) [] rfl ?_ ?_
    · rintro S X h1 h2 (⟨h3, q, rfl⟩ | ⟨h3, _⟩)
      · refine (fills_c (Wn.drewN q)).mono ?_
        rintro e X2 ⟨rfl, e1, e2, hb⟩
        exact ⟨rfl, .inr ⟨rfl, (below_drewN (Below.refl _ _)).trans hb, e1, e2⟩⟩
      · rw [h1] at h3; cases h3
    simp only [Act.put, List.setIfInBounds_toArray, List.set_cons_succ, List.set_cons_zero]
    (refine sets_quiet (fun w' => ∃ u, w' = V u) (fun _ w' _ => hU w') rfl (fun _ _ _ h => h) rfl ?_; intro K hK; go_big_quiet_op; first | go_big_quiet_on | (refine ⟨_, fun _ => rfl, ?_⟩; go_big_quiet_on))
    refine sets_load1 rfl (fun _ _ _ h => h) 38 _ rfl ⟨w1.heap.size, 6, none⟩ rfl (.int .u8 9) ?_ _ Try.underlying38 rfl ?_
    · rintro S X h1 h2 (⟨h3, q, rfl⟩ | ⟨h3, hB, _⟩)
      · exact HR.out.cell 6
      · exact (HR.out.below hB HR.out.lt).cell 6
    simp only [Act.put, List.setIfInBounds_toArray, List.set_cons_succ, List.set_cons_zero]
    (refine sets_quiet (fun w' => ∃ u, w' = V u) (fun _ w' _ => hU w') rfl (fun _ _ _ h => h) rfl ?_; intro K hK; go_big_quiet_op; first | go_big_quiet_on | (refine ⟨_, fun _ => rfl, ?_⟩; go_big_quiet_on))
    (refine sets_quiet (fun w' => ∃ u, w' = V u) (fun _ w' _ => hU w') rfl (fun _ _ _ h => h) rfl ?_; intro K hK; go_big_quiet_op; first | go_big_quiet_on | (refine ⟨_, fun _ => rfl, ?_⟩; go_big_quiet_on))
    rintro S X hS (⟨h3, _⟩ | ⟨h3, hB, e1, e2⟩)
    · have := hS 0 (by decide); rw [h3] at this; cases this
    · have kX := HI.out.below hB hsz
      have CX := Lib.hid (fill_csr X (w1.heap.size + 1) (Wn.heap.size + 1) (Wn.heap.size + 1 + 1) _ w kX hw e1)
      have HBX := Lib.hid (HB.out.trans (hB.mono HB.out.size))
      have HZX := Lib.hid (HZ.out.below hB HZ.out.lt)
      clear hB e1 e2 kX
      go_wp2_with (first
        | (go_at_call 77; (with_reducible refine CX.out.mono ?_); rintro e X2 ⟨rfl, k2, hg⟩; clear CX)
        | (refine wpList_load_blk rfl _ _ rfl _ rfl _ _ _ k2 Try.underlying27 rfl (by kernel_rfl) ?_)
        | (refine wpList_store_blk rfl _ _ _ rfl _ _ rfl rfl _ _ ((hg.block _ HZX.out.lt (by simp; omega)).trans HZX.out) (by kernel_rfl) rfl (by simp [Value.oneCell']) ?_))
      have kz : Blk X2 W.heap.size (instV zeroI) 27 := (hg.block _ HZX.out.lt (by simp; omega)).trans HZX.out
      refine bodyPost_ret (results_cell_tmp rfl _ _ W.heap.size _ _ _ rfl (kz.row _) Try.underlying27 rfl (by kernel_rfl)) rfl ⟨by rw [HD.out]; rfl, below_setRow (HBX.out.grown hg HBX.out.size (fun k hk => by cases hk; omega)) (Nat.le_refl _) _⟩
theorem decode_c (W : World) (w : Nat) (hw : w < 4294967296) : Calls Try.prog 22 #[.int .u32 w] W (DecP W w) := by
  cases h : FIND w with
  | none => exact dec_none W w hw h
  | some r => exact dec_some W w hw r h
end Go.Proofs.Yteelconabmfnkaa
