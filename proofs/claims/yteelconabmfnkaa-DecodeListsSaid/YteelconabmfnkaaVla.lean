/- Vla: several texts in one. -/
import Derived.Test.YteelconabmfnkaaVj
import Derived.Test.YteelconabmfnkaaVk
import Derived.Test.YteelconabmfnkaaLa
/- abacusref25.Decode. -/
namespace Go.Proofs.Yteelconabmfnkaa
open Go Go.RowKit
set_option maxHeartbeats 4000000
set_option maxRecDepth 100000
set_option linter.unusedVariables false
set_option linter.unusedSimpArgs false
theorem rdec_1 (W : World) (w : Nat) (hw : w < 4294967296) (r : R7) (nm : ByteArray) (h : FINDN w = some (r, nm)) (hlay : r.lay = 1) : Calls Try.prog 43 #[.int .u32 w] W (DecP W w) := by
  have hF : FIND w = some r := by rw [← findn_map, h]; rfl
  have hd : DEC w = some (ofRow w r) := by unfold DEC; rw [hF]; rfl
  have C1 : Hid (∀ X, Calls Try.prog 25 #[.int .u32 w] X fun e w' => e = .returned (.tuple #[.agg (entV r nm), .bool true]) ∧ Below X.heap.size X w') := Lib.hid fun X => by
    have := rfind_c X w hw
    unfold RFindP at this
    rw [h] at this
    exact this
  clear h hF
  have HD := Lib.hid hd
  clear hd
  obtain ⟨op, form, frm, kind, mask, mtch, lay⟩ := r
  simp only [] at hlay
  subst hlay
  obtain ⟨a, ha⟩ : ∃ x, rg w 7 = x := ⟨_, rfl⟩
  obtain ⟨q, hq⟩ : ∃ x, w / 4096 % 8 = x := ⟨_, rfl⟩
  obtain ⟨b, hb⟩ : ∃ x, rg w 15 = x := ⟨_, rfl⟩
  obtain ⟨c, hc⟩ : ∃ x, rg w 20 = x := ⟨_, rfl⟩
  obtain ⟨d, hd⟩ : ∃ x, rg w 27 = x := ⟨_, rfl⟩
  obtain ⟨v, hv⟩ : ∃ x, w / 1048576 = x := ⟨_, rfl⟩
  obtain ⟨u, hu⟩ : ∃ x, w / 33554432 = x := ⟨_, rfl⟩
  have la : a < 32 := by rw [← ha]; exact rg_lt _ _
  have lb : b < 32 := by rw [← hb]; exact rg_lt _ _
  have lc : c < 32 := by rw [← hc]; exact rg_lt _ _
  have ld : d < 32 := by rw [← hd]; exact rg_lt _ _
  have lq : q < 8 := by rw [← hq]; exact Nat.mod_lt _ (by decide)
  have lv : v < 4096 := by omega
  have lu : u < 128 := by omega
  have F1 : Hid (∀ X, Calls Try.prog 69 #[.int .u32 w, .int .i64 7, .int .i64 5] X fun e w' => e = .returned (.int .i64 (a : Nat)) ∧ w' = X) := Lib.hid fun X => by rw [← ha]; exact field_c X w 7 5 hw (by decide)
  have F2 : Hid (∀ X, Calls Try.prog 69 #[.int .u32 w, .int .i64 12, .int .i64 3] X fun e w' => e = .returned (.int .i64 (q : Nat)) ∧ w' = X) := Lib.hid fun X => by rw [← hq]; exact field_c X w 12 3 hw (by decide)
  have F3 : Hid (∀ X, Calls Try.prog 69 #[.int .u32 w, .int .i64 15, .int .i64 5] X fun e w' => e = .returned (.int .i64 (b : Nat)) ∧ w' = X) := Lib.hid fun X => by rw [← hb]; exact field_c X w 15 5 hw (by decide)
  have F4 : Hid (∀ X, Calls Try.prog 69 #[.int .u32 w, .int .i64 20, .int .i64 5] X fun e w' => e = .returned (.int .i64 (c : Nat)) ∧ w' = X) := Lib.hid fun X => by rw [← hc]; exact field_c X w 20 5 hw (by decide)
  have F5 : Hid (∀ X, Calls Try.prog 69 #[.int .u32 w, .int .i64 27, .int .i64 5] X fun e w' => e = .returned (.int .i64 (d : Nat)) ∧ w' = X) := Lib.hid fun X => by rw [← hd]; exact field_c X w 27 5 hw (by decide)
  have F6 : Hid (∀ X, Calls Try.prog 69 #[.int .u32 w, .int .i64 20, .int .i64 12] X fun e w' => e = .returned (.int .i64 (v : Nat)) ∧ w' = X) := Lib.hid fun X => by
    have := field_c X w 20 12 hw (by decide)
    rw [Nat.mod_eq_of_lt (show w / 2 ^ 20 < 2 ^ 12 by omega)] at this
    rw [← hv]; exact this
  have F7 : Hid (∀ X, Calls Try.prog 69 #[.int .u32 w, .int .i64 25, .int .i64 7] X fun e w' => e = .returned (.int .i64 (u : Nat)) ∧ w' = X) := Lib.hid fun X => by
    have := field_c X w 25 7 hw (by decide)
    rw [Nat.mod_eq_of_lt (show w / 2 ^ 25 < 2 ^ 7 by omega)] at this
    rw [← hu]; exact this
  obtain ⟨t, ht⟩ : ∃ t, 32 * u + a = t := ⟨_, rfl⟩
  have eT : 32 * (u : Int) + (a : Int) = (t : Int) := by omega
  have lt : t < 4096 := by omega
  have S1 := Lib.hid (fun X => signed_c X v lv)
  have S2 := Lib.hid (fun X => signed_c X t lt)
  obtain ⟨i1, hi1⟩ : ∃ x, s12 v = x := ⟨_, rfl⟩
  obtain ⟨i2, hi2⟩ : ∃ x, s12 t = x := ⟨_, rfl⟩
  rw [hi1] at S1
  rw [hi2] at S2
  obtain ⟨y, hy⟩ : ∃ y, v % 256 = y := ⟨_, rfl⟩
  have eY : (v : Int) % 256 = (y : Int) := by omega
  have HE : Hid (rg w 7 = a ∧ w / 4096 % 8 = q ∧ rg w 15 = b ∧ rg w 20 = c ∧ rg w 27 = d ∧ s12 (w / 1048576) = i1 ∧ s12 (32 * (w / 33554432) + rg w 7) = i2 ∧ w / 1048576 % 256 = y) := Lib.hid ⟨ha, hq, hb, hc, hd, by rw [hv]; exact hi1, by rw [hu, ha, ht]; exact hi2, by rw [hv]; exact hy⟩
  clear ha hq hb hc hd hv hu ht hi1 hi2 hy
  have k0 := Blk.new W (instV zeroI) 27
  have HX : Hid (ofRow w ⟨op, form, frm, kind, mask, mtch, 1⟩ = ⟨op, form, frm, kind, a, b, 0, 0, 0, i1, 0⟩) := Lib.hid (by
    obtain ⟨rfl, rfl, rfl, rfl, rfl, rfl, rfl, rfl⟩ := HE.out
    rfl)
  go_enter Try.func43, Try.ntmps43
  go_wp2_with (first
    | (go_at_call 25; (with_reducible refine (C1.out _).mono ?_); rintro e w1 ⟨rfl, hb⟩; clear C1)
    | (go_at_call 69; (with_reducible refine (F1.out _).mono ?_); rintro e w2 ⟨rfl, rfl⟩)
    | (go_at_call 69; (with_reducible refine (F2.out _).mono ?_); rintro e w2 ⟨rfl, rfl⟩)
    | (go_at_call 69; (with_reducible refine (F3.out _).mono ?_); rintro e w2 ⟨rfl, rfl⟩)
    | (go_at_call 69; (with_reducible refine (F4.out _).mono ?_); rintro e w2 ⟨rfl, rfl⟩)
    | (go_at_call 69; (with_reducible refine (F5.out _).mono ?_); rintro e w2 ⟨rfl, rfl⟩)
    | (go_at_call 69; (with_reducible refine (F6.out _).mono ?_); rintro e w2 ⟨rfl, rfl⟩)
    | (go_at_call 69; (with_reducible refine (F7.out _).mono ?_); rintro e w2 ⟨rfl, rfl⟩)
    | (go_at_call 70; (with_reducible refine (S1.out _).mono ?_); rintro e w2 ⟨rfl, rfl⟩)
    | (go_at_call 70; (with_reducible refine (S2.out _).mono ?_); rintro e w2 ⟨rfl, rfl⟩)
    | (refine wpList_store_blk rfl _ _ _ rfl _ _ rfl rfl _ _ ((((k0.below hb (by simp)).alloc _).alloc _).alloc _) (by kernel_rfl) rfl (by simp [Value.oneCell']) ?_))
  have hb1 : W.heap.size + 1 ≤ w1.heap.size := by have := hb.size; simpa using this
  have k1 := ((((k0.below hb (by simp)).alloc (.cells (entV ⟨op, form, frm, kind, mask, mtch, 1⟩ nm) 42)).alloc (.cells (rowV ⟨op, form, frm, kind, mask, mtch, 1⟩) 40)).alloc (.cells (instV ⟨op, form, frm, kind, a, b, 0, 0, 0, i1, 0⟩) 27)).row (instV ⟨op, form, frm, kind, a, b, 0, 0, 0, i1, 0⟩)
  exact bodyPost_ret (results_cell_tmp rfl _ _ W.heap.size _ _ _ rfl k1 Try.underlying27 rfl (by kernel_rfl)) rfl ⟨by rw [HD.out, HX.out]; rfl, below_setRow ((((((Below.refl W.heap.size W).alloc (Nat.le_refl _) _).trans (hb.mono (by simp))).alloc (by omega) _).alloc (by simp; omega) _).alloc (by simp; omega) _) (Nat.le_refl _) _⟩
theorem rdec_2 (W : World) (w : Nat) (hw : w < 4294967296) (r : R7) (nm : ByteArray) (h : FINDN w = some (r, nm)) (hlay : r.lay = 2) : Calls Try.prog 43 #[.int .u32 w] W (DecP W w) := by
  have hF : FIND w = some r := by rw [← findn_map, h]; rfl
  have hd : DEC w = some (ofRow w r) := by unfold DEC; rw [hF]; rfl
  have C1 : Hid (∀ X, Calls Try.prog 25 #[.int .u32 w] X fun e w' => e = .returned (.tuple #[.agg (entV r nm), .bool true]) ∧ Below X.heap.size X w') := Lib.hid fun X => by
    have := rfind_c X w hw
    unfold RFindP at this
    rw [h] at this
    exact this
  clear h hF
  have HD := Lib.hid hd
  clear hd
  obtain ⟨op, form, frm, kind, mask, mtch, lay⟩ := r
  simp only [] at hlay
  subst hlay
  obtain ⟨a, ha⟩ : ∃ x, rg w 7 = x := ⟨_, rfl⟩
  obtain ⟨q, hq⟩ : ∃ x, w / 4096 % 8 = x := ⟨_, rfl⟩
  obtain ⟨b, hb⟩ : ∃ x, rg w 15 = x := ⟨_, rfl⟩
  obtain ⟨c, hc⟩ : ∃ x, rg w 20 = x := ⟨_, rfl⟩
  obtain ⟨d, hd⟩ : ∃ x, rg w 27 = x := ⟨_, rfl⟩
  obtain ⟨v, hv⟩ : ∃ x, w / 1048576 = x := ⟨_, rfl⟩
  obtain ⟨u, hu⟩ : ∃ x, w / 33554432 = x := ⟨_, rfl⟩
  have la : a < 32 := by rw [← ha]; exact rg_lt _ _
  have lb : b < 32 := by rw [← hb]; exact rg_lt _ _
  have lc : c < 32 := by rw [← hc]; exact rg_lt _ _
  have ld : d < 32 := by rw [← hd]; exact rg_lt _ _
  have lq : q < 8 := by rw [← hq]; exact Nat.mod_lt _ (by decide)
  have lv : v < 4096 := by omega
  have lu : u < 128 := by omega
  have F1 : Hid (∀ X, Calls Try.prog 69 #[.int .u32 w, .int .i64 7, .int .i64 5] X fun e w' => e = .returned (.int .i64 (a : Nat)) ∧ w' = X) := Lib.hid fun X => by rw [← ha]; exact field_c X w 7 5 hw (by decide)
  have F2 : Hid (∀ X, Calls Try.prog 69 #[.int .u32 w, .int .i64 12, .int .i64 3] X fun e w' => e = .returned (.int .i64 (q : Nat)) ∧ w' = X) := Lib.hid fun X => by rw [← hq]; exact field_c X w 12 3 hw (by decide)
  have F3 : Hid (∀ X, Calls Try.prog 69 #[.int .u32 w, .int .i64 15, .int .i64 5] X fun e w' => e = .returned (.int .i64 (b : Nat)) ∧ w' = X) := Lib.hid fun X => by rw [← hb]; exact field_c X w 15 5 hw (by decide)
  have F4 : Hid (∀ X, Calls Try.prog 69 #[.int .u32 w, .int .i64 20, .int .i64 5] X fun e w' => e = .returned (.int .i64 (c : Nat)) ∧ w' = X) := Lib.hid fun X => by rw [← hc]; exact field_c X w 20 5 hw (by decide)
  have F5 : Hid (∀ X, Calls Try.prog 69 #[.int .u32 w, .int .i64 27, .int .i64 5] X fun e w' => e = .returned (.int .i64 (d : Nat)) ∧ w' = X) := Lib.hid fun X => by rw [← hd]; exact field_c X w 27 5 hw (by decide)
  have F6 : Hid (∀ X, Calls Try.prog 69 #[.int .u32 w, .int .i64 20, .int .i64 12] X fun e w' => e = .returned (.int .i64 (v : Nat)) ∧ w' = X) := Lib.hid fun X => by
    have := field_c X w 20 12 hw (by decide)
    rw [Nat.mod_eq_of_lt (show w / 2 ^ 20 < 2 ^ 12 by omega)] at this
    rw [← hv]; exact this
  have F7 : Hid (∀ X, Calls Try.prog 69 #[.int .u32 w, .int .i64 25, .int .i64 7] X fun e w' => e = .returned (.int .i64 (u : Nat)) ∧ w' = X) := Lib.hid fun X => by
    have := field_c X w 25 7 hw (by decide)
    rw [Nat.mod_eq_of_lt (show w / 2 ^ 25 < 2 ^ 7 by omega)] at this
    rw [← hu]; exact this
  obtain ⟨t, ht⟩ : ∃ t, 32 * u + a = t := ⟨_, rfl⟩
  have eT : 32 * (u : Int) + (a : Int) = (t : Int) := by omega
  have lt : t < 4096 := by omega
  have S1 := Lib.hid (fun X => signed_c X v lv)
  have S2 := Lib.hid (fun X => signed_c X t lt)
  obtain ⟨i1, hi1⟩ : ∃ x, s12 v = x := ⟨_, rfl⟩
  obtain ⟨i2, hi2⟩ : ∃ x, s12 t = x := ⟨_, rfl⟩
  rw [hi1] at S1
  rw [hi2] at S2
  obtain ⟨y, hy⟩ : ∃ y, v % 256 = y := ⟨_, rfl⟩
  have eY : (v : Int) % 256 = (y : Int) := by omega
  have HE : Hid (rg w 7 = a ∧ w / 4096 % 8 = q ∧ rg w 15 = b ∧ rg w 20 = c ∧ rg w 27 = d ∧ s12 (w / 1048576) = i1 ∧ s12 (32 * (w / 33554432) + rg w 7) = i2 ∧ w / 1048576 % 256 = y) := Lib.hid ⟨ha, hq, hb, hc, hd, by rw [hv]; exact hi1, by rw [hu, ha, ht]; exact hi2, by rw [hv]; exact hy⟩
  clear ha hq hb hc hd hv hu ht hi1 hi2 hy
  have k0 := Blk.new W (instV zeroI) 27
  have HX : Hid (ofRow w ⟨op, form, frm, kind, mask, mtch, 2⟩ = ⟨op, form, frm, kind, 0, b, c, 0, 0, i2, 0⟩) := Lib.hid (by
    obtain ⟨rfl, rfl, rfl, rfl, rfl, rfl, rfl, rfl⟩ := HE.out
    rfl)
  go_enter Try.func43, Try.ntmps43
  go_wp2_with (first
    | (go_at_call 25; (with_reducible refine (C1.out _).mono ?_); rintro e w1 ⟨rfl, hb⟩; clear C1)
    | (go_at_call 69; (with_reducible refine (F1.out _).mono ?_); rintro e w2 ⟨rfl, rfl⟩)
    | (go_at_call 69; (with_reducible refine (F2.out _).mono ?_); rintro e w2 ⟨rfl, rfl⟩)
    | (go_at_call 69; (with_reducible refine (F3.out _).mono ?_); rintro e w2 ⟨rfl, rfl⟩)
    | (go_at_call 69; (with_reducible refine (F4.out _).mono ?_); rintro e w2 ⟨rfl, rfl⟩)
    | (go_at_call 69; (with_reducible refine (F5.out _).mono ?_); rintro e w2 ⟨rfl, rfl⟩)
    | (go_at_call 69; (with_reducible refine (F6.out _).mono ?_); rintro e w2 ⟨rfl, rfl⟩)
    | (go_at_call 69; (with_reducible refine (F7.out _).mono ?_); rintro e w2 ⟨rfl, rfl⟩)
    | (go_at_call 70; (with_reducible refine (S1.out _).mono ?_); rintro e w2 ⟨rfl, rfl⟩)
    | (go_at_call 70; (with_reducible refine (S2.out _).mono ?_); rintro e w2 ⟨rfl, rfl⟩)
    | (refine wpList_store_blk rfl _ _ _ rfl _ _ rfl rfl _ _ ((((k0.below hb (by simp)).alloc _).alloc _).alloc _) (by kernel_rfl) rfl (by simp [Value.oneCell']) ?_))
  have hb1 : W.heap.size + 1 ≤ w1.heap.size := by have := hb.size; simpa using this
  have k1 := ((((k0.below hb (by simp)).alloc (.cells (entV ⟨op, form, frm, kind, mask, mtch, 2⟩ nm) 42)).alloc (.cells (rowV ⟨op, form, frm, kind, mask, mtch, 2⟩) 40)).alloc (.cells (instV ⟨op, form, frm, kind, 0, b, c, 0, 0, i2, 0⟩) 27)).row (instV ⟨op, form, frm, kind, 0, b, c, 0, 0, i2, 0⟩)
  exact bodyPost_ret (results_cell_tmp rfl _ _ W.heap.size _ _ _ rfl k1 Try.underlying27 rfl (by kernel_rfl)) rfl ⟨by rw [HD.out, HX.out]; rfl, below_setRow ((((((Below.refl W.heap.size W).alloc (Nat.le_refl _) _).trans (hb.mono (by simp))).alloc (by omega) _).alloc (by simp; omega) _).alloc (by simp; omega) _) (Nat.le_refl _) _⟩
theorem rdec_3 (W : World) (w : Nat) (hw : w < 4294967296) (r : R7) (nm : ByteArray) (h : FINDN w = some (r, nm)) (hlay : r.lay = 3) : Calls Try.prog 43 #[.int .u32 w] W (DecP W w) := by
  have hF : FIND w = some r := by rw [← findn_map, h]; rfl
  have hd : DEC w = some (ofRow w r) := by unfold DEC; rw [hF]; rfl
  have C1 : Hid (∀ X, Calls Try.prog 25 #[.int .u32 w] X fun e w' => e = .returned (.tuple #[.agg (entV r nm), .bool true]) ∧ Below X.heap.size X w') := Lib.hid fun X => by
    have := rfind_c X w hw
    unfold RFindP at this
    rw [h] at this
    exact this
  clear h hF
  have HD := Lib.hid hd
  clear hd
  obtain ⟨op, form, frm, kind, mask, mtch, lay⟩ := r
  simp only [] at hlay
  subst hlay
  obtain ⟨a, ha⟩ : ∃ x, rg w 7 = x := ⟨_, rfl⟩
  obtain ⟨q, hq⟩ : ∃ x, w / 4096 % 8 = x := ⟨_, rfl⟩
  obtain ⟨b, hb⟩ : ∃ x, rg w 15 = x := ⟨_, rfl⟩
  obtain ⟨c, hc⟩ : ∃ x, rg w 20 = x := ⟨_, rfl⟩
  obtain ⟨d, hd⟩ : ∃ x, rg w 27 = x := ⟨_, rfl⟩
  obtain ⟨v, hv⟩ : ∃ x, w / 1048576 = x := ⟨_, rfl⟩
  obtain ⟨u, hu⟩ : ∃ x, w / 33554432 = x := ⟨_, rfl⟩
  have la : a < 32 := by rw [← ha]; exact rg_lt _ _
  have lb : b < 32 := by rw [← hb]; exact rg_lt _ _
  have lc : c < 32 := by rw [← hc]; exact rg_lt _ _
  have ld : d < 32 := by rw [← hd]; exact rg_lt _ _
  have lq : q < 8 := by rw [← hq]; exact Nat.mod_lt _ (by decide)
  have lv : v < 4096 := by omega
  have lu : u < 128 := by omega
  have F1 : Hid (∀ X, Calls Try.prog 69 #[.int .u32 w, .int .i64 7, .int .i64 5] X fun e w' => e = .returned (.int .i64 (a : Nat)) ∧ w' = X) := Lib.hid fun X => by rw [← ha]; exact field_c X w 7 5 hw (by decide)
  have F2 : Hid (∀ X, Calls Try.prog 69 #[.int .u32 w, .int .i64 12, .int .i64 3] X fun e w' => e = .returned (.int .i64 (q : Nat)) ∧ w' = X) := Lib.hid fun X => by rw [← hq]; exact field_c X w 12 3 hw (by decide)
  have F3 : Hid (∀ X, Calls Try.prog 69 #[.int .u32 w, .int .i64 15, .int .i64 5] X fun e w' => e = .returned (.int .i64 (b : Nat)) ∧ w' = X) := Lib.hid fun X => by rw [← hb]; exact field_c X w 15 5 hw (by decide)
  have F4 : Hid (∀ X, Calls Try.prog 69 #[.int .u32 w, .int .i64 20, .int .i64 5] X fun e w' => e = .returned (.int .i64 (c : Nat)) ∧ w' = X) := Lib.hid fun X => by rw [← hc]; exact field_c X w 20 5 hw (by decide)
  have F5 : Hid (∀ X, Calls Try.prog 69 #[.int .u32 w, .int .i64 27, .int .i64 5] X fun e w' => e = .returned (.int .i64 (d : Nat)) ∧ w' = X) := Lib.hid fun X => by rw [← hd]; exact field_c X w 27 5 hw (by decide)
  have F6 : Hid (∀ X, Calls Try.prog 69 #[.int .u32 w, .int .i64 20, .int .i64 12] X fun e w' => e = .returned (.int .i64 (v : Nat)) ∧ w' = X) := Lib.hid fun X => by
    have := field_c X w 20 12 hw (by decide)
    rw [Nat.mod_eq_of_lt (show w / 2 ^ 20 < 2 ^ 12 by omega)] at this
    rw [← hv]; exact this
  have F7 : Hid (∀ X, Calls Try.prog 69 #[.int .u32 w, .int .i64 25, .int .i64 7] X fun e w' => e = .returned (.int .i64 (u : Nat)) ∧ w' = X) := Lib.hid fun X => by
    have := field_c X w 25 7 hw (by decide)
    rw [Nat.mod_eq_of_lt (show w / 2 ^ 25 < 2 ^ 7 by omega)] at this
    rw [← hu]; exact this
  obtain ⟨t, ht⟩ : ∃ t, 32 * u + a = t := ⟨_, rfl⟩
  have eT : 32 * (u : Int) + (a : Int) = (t : Int) := by omega
  have lt : t < 4096 := by omega
  have S1 := Lib.hid (fun X => signed_c X v lv)
  have S2 := Lib.hid (fun X => signed_c X t lt)
  obtain ⟨i1, hi1⟩ : ∃ x, s12 v = x := ⟨_, rfl⟩
  obtain ⟨i2, hi2⟩ : ∃ x, s12 t = x := ⟨_, rfl⟩
  rw [hi1] at S1
  rw [hi2] at S2
  obtain ⟨y, hy⟩ : ∃ y, v % 256 = y := ⟨_, rfl⟩
  have eY : (v : Int) % 256 = (y : Int) := by omega
  have HE : Hid (rg w 7 = a ∧ w / 4096 % 8 = q ∧ rg w 15 = b ∧ rg w 20 = c ∧ rg w 27 = d ∧ s12 (w / 1048576) = i1 ∧ s12 (32 * (w / 33554432) + rg w 7) = i2 ∧ w / 1048576 % 256 = y) := Lib.hid ⟨ha, hq, hb, hc, hd, by rw [hv]; exact hi1, by rw [hu, ha, ht]; exact hi2, by rw [hv]; exact hy⟩
  clear ha hq hb hc hd hv hu ht hi1 hi2 hy
  have k0 := Blk.new W (instV zeroI) 27
  have HX : Hid (ofRow w ⟨op, form, frm, kind, mask, mtch, 3⟩ = ⟨op, form, frm, kind, a, b, c, d, q, 0, 0⟩) := Lib.hid (by
    obtain ⟨rfl, rfl, rfl, rfl, rfl, rfl, rfl, rfl⟩ := HE.out
    rfl)
  go_enter Try.func43, Try.ntmps43
  go_wp2_with (first
    | (go_at_call 25; (with_reducible refine (C1.out _).mono ?_); rintro e w1 ⟨rfl, hb⟩; clear C1)
    | (go_at_call 69; (with_reducible refine (F1.out _).mono ?_); rintro e w2 ⟨rfl, rfl⟩)
    | (go_at_call 69; (with_reducible refine (F2.out _).mono ?_); rintro e w2 ⟨rfl, rfl⟩)
    | (go_at_call 69; (with_reducible refine (F3.out _).mono ?_); rintro e w2 ⟨rfl, rfl⟩)
    | (go_at_call 69; (with_reducible refine (F4.out _).mono ?_); rintro e w2 ⟨rfl, rfl⟩)
    | (go_at_call 69; (with_reducible refine (F5.out _).mono ?_); rintro e w2 ⟨rfl, rfl⟩)
    | (go_at_call 69; (with_reducible refine (F6.out _).mono ?_); rintro e w2 ⟨rfl, rfl⟩)
    | (go_at_call 69; (with_reducible refine (F7.out _).mono ?_); rintro e w2 ⟨rfl, rfl⟩)
    | (go_at_call 70; (with_reducible refine (S1.out _).mono ?_); rintro e w2 ⟨rfl, rfl⟩)
    | (go_at_call 70; (with_reducible refine (S2.out _).mono ?_); rintro e w2 ⟨rfl, rfl⟩)
    | (refine wpList_store_blk rfl _ _ _ rfl _ _ rfl rfl _ _ ((((k0.below hb (by simp)).alloc _).alloc _).alloc _) (by kernel_rfl) rfl (by simp [Value.oneCell']) ?_))
  have hb1 : W.heap.size + 1 ≤ w1.heap.size := by have := hb.size; simpa using this
  have k1 := ((((k0.below hb (by simp)).alloc (.cells (entV ⟨op, form, frm, kind, mask, mtch, 3⟩ nm) 42)).alloc (.cells (rowV ⟨op, form, frm, kind, mask, mtch, 3⟩) 40)).alloc (.cells (instV ⟨op, form, frm, kind, a, b, c, d, q, 0, 0⟩) 27)).row (instV ⟨op, form, frm, kind, a, b, c, d, q, 0, 0⟩)
  exact bodyPost_ret (results_cell_tmp rfl _ _ W.heap.size _ _ _ rfl k1 Try.underlying27 rfl (by kernel_rfl)) rfl ⟨by rw [HD.out, HX.out]; rfl, below_setRow ((((((Below.refl W.heap.size W).alloc (Nat.le_refl _) _).trans (hb.mono (by simp))).alloc (by omega) _).alloc (by simp; omega) _).alloc (by simp; omega) _) (Nat.le_refl _) _⟩
theorem rdec_4 (W : World) (w : Nat) (hw : w < 4294967296) (r : R7) (nm : ByteArray) (h : FINDN w = some (r, nm)) (hlay : r.lay = 4) : Calls Try.prog 43 #[.int .u32 w] W (DecP W w) := by
  have hF : FIND w = some r := by rw [← findn_map, h]; rfl
  have hd : DEC w = some (ofRow w r) := by unfold DEC; rw [hF]; rfl
  have C1 : Hid (∀ X, Calls Try.prog 25 #[.int .u32 w] X fun e w' => e = .returned (.tuple #[.agg (entV r nm), .bool true]) ∧ Below X.heap.size X w') := Lib.hid fun X => by
    have := rfind_c X w hw
    unfold RFindP at this
    rw [h] at this
    exact this
  clear h hF
  have HD := Lib.hid hd
  clear hd
  obtain ⟨op, form, frm, kind, mask, mtch, lay⟩ := r
  simp only [] at hlay
  subst hlay
  obtain ⟨a, ha⟩ : ∃ x, rg w 7 = x := ⟨_, rfl⟩
  obtain ⟨q, hq⟩ : ∃ x, w / 4096 % 8 = x := ⟨_, rfl⟩
  obtain ⟨b, hb⟩ : ∃ x, rg w 15 = x := ⟨_, rfl⟩
  obtain ⟨c, hc⟩ : ∃ x, rg w 20 = x := ⟨_, rfl⟩
  obtain ⟨d, hd⟩ : ∃ x, rg w 27 = x := ⟨_, rfl⟩
  obtain ⟨v, hv⟩ : ∃ x, w / 1048576 = x := ⟨_, rfl⟩
  obtain ⟨u, hu⟩ : ∃ x, w / 33554432 = x := ⟨_, rfl⟩
  have la : a < 32 := by rw [← ha]; exact rg_lt _ _
  have lb : b < 32 := by rw [← hb]; exact rg_lt _ _
  have lc : c < 32 := by rw [← hc]; exact rg_lt _ _
  have ld : d < 32 := by rw [← hd]; exact rg_lt _ _
  have lq : q < 8 := by rw [← hq]; exact Nat.mod_lt _ (by decide)
  have lv : v < 4096 := by omega
  have lu : u < 128 := by omega
  have F1 : Hid (∀ X, Calls Try.prog 69 #[.int .u32 w, .int .i64 7, .int .i64 5] X fun e w' => e = .returned (.int .i64 (a : Nat)) ∧ w' = X) := Lib.hid fun X => by rw [← ha]; exact field_c X w 7 5 hw (by decide)
  have F2 : Hid (∀ X, Calls Try.prog 69 #[.int .u32 w, .int .i64 12, .int .i64 3] X fun e w' => e = .returned (.int .i64 (q : Nat)) ∧ w' = X) := Lib.hid fun X => by rw [← hq]; exact field_c X w 12 3 hw (by decide)
  have F3 : Hid (∀ X, Calls Try.prog 69 #[.int .u32 w, .int .i64 15, .int .i64 5] X fun e w' => e = .returned (.int .i64 (b : Nat)) ∧ w' = X) := Lib.hid fun X => by rw [← hb]; exact field_c X w 15 5 hw (by decide)
  have F4 : Hid (∀ X, Calls Try.prog 69 #[.int .u32 w, .int .i64 20, .int .i64 5] X fun e w' => e = .returned (.int .i64 (c : Nat)) ∧ w' = X) := Lib.hid fun X => by rw [← hc]; exact field_c X w 20 5 hw (by decide)
  have F5 : Hid (∀ X, Calls Try.prog 69 #[.int .u32 w, .int .i64 27, .int .i64 5] X fun e w' => e = .returned (.int .i64 (d : Nat)) ∧ w' = X) := Lib.hid fun X => by rw [← hd]; exact field_c X w 27 5 hw (by decide)
  have F6 : Hid (∀ X, Calls Try.prog 69 #[.int .u32 w, .int .i64 20, .int .i64 12] X fun e w' => e = .returned (.int .i64 (v : Nat)) ∧ w' = X) := Lib.hid fun X => by
    have := field_c X w 20 12 hw (by decide)
    rw [Nat.mod_eq_of_lt (show w / 2 ^ 20 < 2 ^ 12 by omega)] at this
    rw [← hv]; exact this
  have F7 : Hid (∀ X, Calls Try.prog 69 #[.int .u32 w, .int .i64 25, .int .i64 7] X fun e w' => e = .returned (.int .i64 (u : Nat)) ∧ w' = X) := Lib.hid fun X => by
    have := field_c X w 25 7 hw (by decide)
    rw [Nat.mod_eq_of_lt (show w / 2 ^ 25 < 2 ^ 7 by omega)] at this
    rw [← hu]; exact this
  obtain ⟨t, ht⟩ : ∃ t, 32 * u + a = t := ⟨_, rfl⟩
  have eT : 32 * (u : Int) + (a : Int) = (t : Int) := by omega
  have lt : t < 4096 := by omega
  have S1 := Lib.hid (fun X => signed_c X v lv)
  have S2 := Lib.hid (fun X => signed_c X t lt)
  obtain ⟨i1, hi1⟩ : ∃ x, s12 v = x := ⟨_, rfl⟩
  obtain ⟨i2, hi2⟩ : ∃ x, s12 t = x := ⟨_, rfl⟩
  rw [hi1] at S1
  rw [hi2] at S2
  obtain ⟨y, hy⟩ : ∃ y, v % 256 = y := ⟨_, rfl⟩
  have eY : (v : Int) % 256 = (y : Int) := by omega
  have HE : Hid (rg w 7 = a ∧ w / 4096 % 8 = q ∧ rg w 15 = b ∧ rg w 20 = c ∧ rg w 27 = d ∧ s12 (w / 1048576) = i1 ∧ s12 (32 * (w / 33554432) + rg w 7) = i2 ∧ w / 1048576 % 256 = y) := Lib.hid ⟨ha, hq, hb, hc, hd, by rw [hv]; exact hi1, by rw [hu, ha, ht]; exact hi2, by rw [hv]; exact hy⟩
  clear ha hq hb hc hd hv hu ht hi1 hi2 hy
  have k0 := Blk.new W (instV zeroI) 27
  have HX : Hid (ofRow w ⟨op, form, frm, kind, mask, mtch, 4⟩ = ⟨op, form, frm, kind, a, b, c, 0, q, 0, 0⟩) := Lib.hid (by
    obtain ⟨rfl, rfl, rfl, rfl, rfl, rfl, rfl, rfl⟩ := HE.out
    rfl)
  go_enter Try.func43, Try.ntmps43
  go_wp2_with (first
    | (go_at_call 25; (with_reducible refine (C1.out _).mono ?_); rintro e w1 ⟨rfl, hb⟩; clear C1)
    | (go_at_call 69; (with_reducible refine (F1.out _).mono ?_); rintro e w2 ⟨rfl, rfl⟩)
    | (go_at_call 69; (with_reducible refine (F2.out _).mono ?_); rintro e w2 ⟨rfl, rfl⟩)
    | (go_at_call 69; (with_reducible refine (F3.out _).mono ?_); rintro e w2 ⟨rfl, rfl⟩)
    | (go_at_call 69; (with_reducible refine (F4.out _).mono ?_); rintro e w2 ⟨rfl, rfl⟩)
    | (go_at_call 69; (with_reducible refine (F5.out _).mono ?_); rintro e w2 ⟨rfl, rfl⟩)
    | (go_at_call 69; (with_reducible refine (F6.out _).mono ?_); rintro e w2 ⟨rfl, rfl⟩)
    | (go_at_call 69; (with_reducible refine (F7.out _).mono ?_); rintro e w2 ⟨rfl, rfl⟩)
    | (go_at_call 70; (with_reducible refine (S1.out _).mono ?_); rintro e w2 ⟨rfl, rfl⟩)
    | (go_at_call 70; (with_reducible refine (S2.out _).mono ?_); rintro e w2 ⟨rfl, rfl⟩)
    | (refine wpList_store_blk rfl _ _ _ rfl _ _ rfl rfl _ _ ((((k0.below hb (by simp)).alloc _).alloc _).alloc _) (by kernel_rfl) rfl (by simp [Value.oneCell']) ?_))
  have hb1 : W.heap.size + 1 ≤ w1.heap.size := by have := hb.size; simpa using this
  have k1 := ((((k0.below hb (by simp)).alloc (.cells (entV ⟨op, form, frm, kind, mask, mtch, 4⟩ nm) 42)).alloc (.cells (rowV ⟨op, form, frm, kind, mask, mtch, 4⟩) 40)).alloc (.cells (instV ⟨op, form, frm, kind, a, b, c, 0, q, 0, 0⟩) 27)).row (instV ⟨op, form, frm, kind, a, b, c, 0, q, 0, 0⟩)
  exact bodyPost_ret (results_cell_tmp rfl _ _ W.heap.size _ _ _ rfl k1 Try.underlying27 rfl (by kernel_rfl)) rfl ⟨by rw [HD.out, HX.out]; rfl, below_setRow ((((((Below.refl W.heap.size W).alloc (Nat.le_refl _) _).trans (hb.mono (by simp))).alloc (by omega) _).alloc (by simp; omega) _).alloc (by simp; omega) _) (Nat.le_refl _) _⟩
end Go.Proofs.Yteelconabmfnkaa

/- abacusref25.Decode. -/
namespace Go.Proofs.Yteelconabmfnkaa
open Go Go.RowKit
set_option maxHeartbeats 4000000
set_option maxRecDepth 100000
set_option linter.unusedVariables false
set_option linter.unusedSimpArgs false
theorem rdec_5 (W : World) (w : Nat) (hw : w < 4294967296) (r : R7) (nm : ByteArray) (h : FINDN w = some (r, nm)) (hlay : r.lay = 5) : Calls Try.prog 43 #[.int .u32 w] W (DecP W w) := by
  have hF : FIND w = some r := by rw [← findn_map, h]; rfl
  have hd : DEC w = some (ofRow w r) := by unfold DEC; rw [hF]; rfl
  have C1 : Hid (∀ X, Calls Try.prog 25 #[.int .u32 w] X fun e w' => e = .returned (.tuple #[.agg (entV r nm), .bool true]) ∧ Below X.heap.size X w') := Lib.hid fun X => by
    have := rfind_c X w hw
    unfold RFindP at this
    rw [h] at this
    exact this
  clear h hF
  have HD := Lib.hid hd
  clear hd
  obtain ⟨op, form, frm, kind, mask, mtch, lay⟩ := r
  simp only [] at hlay
  subst hlay
  obtain ⟨a, ha⟩ : ∃ x, rg w 7 = x := ⟨_, rfl⟩
  obtain ⟨q, hq⟩ : ∃ x, w / 4096 % 8 = x := ⟨_, rfl⟩
  obtain ⟨b, hb⟩ : ∃ x, rg w 15 = x := ⟨_, rfl⟩
  obtain ⟨c, hc⟩ : ∃ x, rg w 20 = x := ⟨_, rfl⟩
  obtain ⟨d, hd⟩ : ∃ x, rg w 27 = x := ⟨_, rfl⟩
  obtain ⟨v, hv⟩ : ∃ x, w / 1048576 = x := ⟨_, rfl⟩
  obtain ⟨u, hu⟩ : ∃ x, w / 33554432 = x := ⟨_, rfl⟩
  have la : a < 32 := by rw [← ha]; exact rg_lt _ _
  have lb : b < 32 := by rw [← hb]; exact rg_lt _ _
  have lc : c < 32 := by rw [← hc]; exact rg_lt _ _
  have ld : d < 32 := by rw [← hd]; exact rg_lt _ _
  have lq : q < 8 := by rw [← hq]; exact Nat.mod_lt _ (by decide)
  have lv : v < 4096 := by omega
  have lu : u < 128 := by omega
  have F1 : Hid (∀ X, Calls Try.prog 69 #[.int .u32 w, .int .i64 7, .int .i64 5] X fun e w' => e = .returned (.int .i64 (a : Nat)) ∧ w' = X) := Lib.hid fun X => by rw [← ha]; exact field_c X w 7 5 hw (by decide)
  have F2 : Hid (∀ X, Calls Try.prog 69 #[.int .u32 w, .int .i64 12, .int .i64 3] X fun e w' => e = .returned (.int .i64 (q : Nat)) ∧ w' = X) := Lib.hid fun X => by rw [← hq]; exact field_c X w 12 3 hw (by decide)
  have F3 : Hid (∀ X, Calls Try.prog 69 #[.int .u32 w, .int .i64 15, .int .i64 5] X fun e w' => e = .returned (.int .i64 (b : Nat)) ∧ w' = X) := Lib.hid fun X => by rw [← hb]; exact field_c X w 15 5 hw (by decide)
  have F4 : Hid (∀ X, Calls Try.prog 69 #[.int .u32 w, .int .i64 20, .int .i64 5] X fun e w' => e = .returned (.int .i64 (c : Nat)) ∧ w' = X) := Lib.hid fun X => by rw [← hc]; exact field_c X w 20 5 hw (by decide)
  have F5 : Hid (∀ X, Calls Try.prog 69 #[.int .u32 w, .int .i64 27, .int .i64 5] X fun e w' => e = .returned (.int .i64 (d : Nat)) ∧ w' = X) := Lib.hid fun X => by rw [← hd]; exact field_c X w 27 5 hw (by decide)
  have F6 : Hid (∀ X, Calls Try.prog 69 #[.int .u32 w, .int .i64 20, .int .i64 12] X fun e w' => e = .returned (.int .i64 (v : Nat)) ∧ w' = X) := Lib.hid fun X => by
    have := field_c X w 20 12 hw (by decide)
    rw [Nat.mod_eq_of_lt (show w / 2 ^ 20 < 2 ^ 12 by omega)] at this
    rw [← hv]; exact this
  have F7 : Hid (∀ X, Calls Try.prog 69 #[.int .u32 w, .int .i64 25, .int .i64 7] X fun e w' => e = .returned (.int .i64 (u : Nat)) ∧ w' = X) := Lib.hid fun X => by
    have := field_c X w 25 7 hw (by decide)
    rw [Nat.mod_eq_of_lt (show w / 2 ^ 25 < 2 ^ 7 by omega)] at this
    rw [← hu]; exact this
  obtain ⟨t, ht⟩ : ∃ t, 32 * u + a = t := ⟨_, rfl⟩
  have eT : 32 * (u : Int) + (a : Int) = (t : Int) := by omega
  have lt : t < 4096 := by omega
  have S1 := Lib.hid (fun X => signed_c X v lv)
  have S2 := Lib.hid (fun X => signed_c X t lt)
  obtain ⟨i1, hi1⟩ : ∃ x, s12 v = x := ⟨_, rfl⟩
  obtain ⟨i2, hi2⟩ : ∃ x, s12 t = x := ⟨_, rfl⟩
  rw [hi1] at S1
  rw [hi2] at S2
  obtain ⟨y, hy⟩ : ∃ y, v % 256 = y := ⟨_, rfl⟩
  have eY : (v : Int) % 256 = (y : Int) := by omega
  have HE : Hid (rg w 7 = a ∧ w / 4096 % 8 = q ∧ rg w 15 = b ∧ rg w 20 = c ∧ rg w 27 = d ∧ s12 (w / 1048576) = i1 ∧ s12 (32 * (w / 33554432) + rg w 7) = i2 ∧ w / 1048576 % 256 = y) := Lib.hid ⟨ha, hq, hb, hc, hd, by rw [hv]; exact hi1, by rw [hu, ha, ht]; exact hi2, by rw [hv]; exact hy⟩
  clear ha hq hb hc hd hv hu ht hi1 hi2 hy
  have k0 := Blk.new W (instV zeroI) 27
  have HX : Hid (ofRow w ⟨op, form, frm, kind, mask, mtch, 5⟩ = ⟨op, form, frm, kind, a, b, c, 0, 0, 0, 0⟩) := Lib.hid (by
    obtain ⟨rfl, rfl, rfl, rfl, rfl, rfl, rfl, rfl⟩ := HE.out
    rfl)
  go_enter Try.func43, Try.ntmps43
  go_wp2_with (first
    | (go_at_call 25; (with_reducible refine (C1.out _).mono ?_); rintro e w1 ⟨rfl, hb⟩; clear C1)
    | (go_at_call 69; (with_reducible refine (F1.out _).mono ?_); rintro e w2 ⟨rfl, rfl⟩)
    | (go_at_call 69; (with_reducible refine (F2.out _).mono ?_); rintro e w2 ⟨rfl, rfl⟩)
    | (go_at_call 69; (with_reducible refine (F3.out _).mono ?_); rintro e w2 ⟨rfl, rfl⟩)
    | (go_at_call 69; (with_reducible refine (F4.out _).mono ?_); rintro e w2 ⟨rfl, rfl⟩)
    | (go_at_call 69; (with_reducible refine (F5.out _).mono ?_); rintro e w2 ⟨rfl, rfl⟩)
    | (go_at_call 69; (with_reducible refine (F6.out _).mono ?_); rintro e w2 ⟨rfl, rfl⟩)
    | (go_at_call 69; (with_reducible refine (F7.out _).mono ?_); rintro e w2 ⟨rfl, rfl⟩)
    | (go_at_call 70; (with_reducible refine (S1.out _).mono ?_); rintro e w2 ⟨rfl, rfl⟩)
    | (go_at_call 70; (with_reducible refine (S2.out _).mono ?_); rintro e w2 ⟨rfl, rfl⟩)
    | (refine wpList_store_blk rfl _ _ _ rfl _ _ rfl rfl _ _ ((((k0.below hb (by simp)).alloc _).alloc _).alloc _) (by kernel_rfl) rfl (by simp [Value.oneCell']) ?_))
  have hb1 : W.heap.size + 1 ≤ w1.heap.size := by have := hb.size; simpa using this
  have k1 := ((((k0.below hb (by simp)).alloc (.cells (entV ⟨op, form, frm, kind, mask, mtch, 5⟩ nm) 42)).alloc (.cells (rowV ⟨op, form, frm, kind, mask, mtch, 5⟩) 40)).alloc (.cells (instV ⟨op, form, frm, kind, a, b, c, 0, 0, 0, 0⟩) 27)).row (instV ⟨op, form, frm, kind, a, b, c, 0, 0, 0, 0⟩)
  exact bodyPost_ret (results_cell_tmp rfl _ _ W.heap.size _ _ _ rfl k1 Try.underlying27 rfl (by kernel_rfl)) rfl ⟨by rw [HD.out, HX.out]; rfl, below_setRow ((((((Below.refl W.heap.size W).alloc (Nat.le_refl _) _).trans (hb.mono (by simp))).alloc (by omega) _).alloc (by simp; omega) _).alloc (by simp; omega) _) (Nat.le_refl _) _⟩
theorem rdec_6 (W : World) (w : Nat) (hw : w < 4294967296) (r : R7) (nm : ByteArray) (h : FINDN w = some (r, nm)) (hlay : r.lay = 6) : Calls Try.prog 43 #[.int .u32 w] W (DecP W w) := by
  have hF : FIND w = some r := by rw [← findn_map, h]; rfl
  have hd : DEC w = some (ofRow w r) := by unfold DEC; rw [hF]; rfl
  have C1 : Hid (∀ X, Calls Try.prog 25 #[.int .u32 w] X fun e w' => e = .returned (.tuple #[.agg (entV r nm), .bool true]) ∧ Below X.heap.size X w') := Lib.hid fun X => by
    have := rfind_c X w hw
    unfold RFindP at this
    rw [h] at this
    exact this
  clear h hF
  have HD := Lib.hid hd
  clear hd
  obtain ⟨op, form, frm, kind, mask, mtch, lay⟩ := r
  simp only [] at hlay
  subst hlay
  obtain ⟨a, ha⟩ : ∃ x, rg w 7 = x := ⟨_, rfl⟩
  obtain ⟨q, hq⟩ : ∃ x, w / 4096 % 8 = x := ⟨_, rfl⟩
  obtain ⟨b, hb⟩ : ∃ x, rg w 15 = x := ⟨_, rfl⟩
  obtain ⟨c, hc⟩ : ∃ x, rg w 20 = x := ⟨_, rfl⟩
  obtain ⟨d, hd⟩ : ∃ x, rg w 27 = x := ⟨_, rfl⟩
  obtain ⟨v, hv⟩ : ∃ x, w / 1048576 = x := ⟨_, rfl⟩
  obtain ⟨u, hu⟩ : ∃ x, w / 33554432 = x := ⟨_, rfl⟩
  have la : a < 32 := by rw [← ha]; exact rg_lt _ _
  have lb : b < 32 := by rw [← hb]; exact rg_lt _ _
  have lc : c < 32 := by rw [← hc]; exact rg_lt _ _
  have ld : d < 32 := by rw [← hd]; exact rg_lt _ _
  have lq : q < 8 := by rw [← hq]; exact Nat.mod_lt _ (by decide)
  have lv : v < 4096 := by omega
  have lu : u < 128 := by omega
  have F1 : Hid (∀ X, Calls Try.prog 69 #[.int .u32 w, .int .i64 7, .int .i64 5] X fun e w' => e = .returned (.int .i64 (a : Nat)) ∧ w' = X) := Lib.hid fun X => by rw [← ha]; exact field_c X w 7 5 hw (by decide)
  have F2 : Hid (∀ X, Calls Try.prog 69 #[.int .u32 w, .int .i64 12, .int .i64 3] X fun e w' => e = .returned (.int .i64 (q : Nat)) ∧ w' = X) := Lib.hid fun X => by rw [← hq]; exact field_c X w 12 3 hw (by decide)
  have F3 : Hid (∀ X, Calls Try.prog 69 #[.int .u32 w, .int .i64 15, .int .i64 5] X fun e w' => e = .returned (.int .i64 (b : Nat)) ∧ w' = X) := Lib.hid fun X => by rw [← hb]; exact field_c X w 15 5 hw (by decide)
  have F4 : Hid (∀ X, Calls Try.prog 69 #[.int .u32 w, .int .i64 20, .int .i64 5] X fun e w' => e = .returned (.int .i64 (c : Nat)) ∧ w' = X) := Lib.hid fun X => by rw [← hc]; exact field_c X w 20 5 hw (by decide)
  have F5 : Hid (∀ X, Calls Try.prog 69 #[.int .u32 w, .int .i64 27, .int .i64 5] X fun e w' => e = .returned (.int .i64 (d : Nat)) ∧ w' = X) := Lib.hid fun X => by rw [← hd]; exact field_c X w 27 5 hw (by decide)
  have F6 : Hid (∀ X, Calls Try.prog 69 #[.int .u32 w, .int .i64 20, .int .i64 12] X fun e w' => e = .returned (.int .i64 (v : Nat)) ∧ w' = X) := Lib.hid fun X => by
    have := field_c X w 20 12 hw (by decide)
    rw [Nat.mod_eq_of_lt (show w / 2 ^ 20 < 2 ^ 12 by omega)] at this
    rw [← hv]; exact this
  have F7 : Hid (∀ X, Calls Try.prog 69 #[.int .u32 w, .int .i64 25, .int .i64 7] X fun e w' => e = .returned (.int .i64 (u : Nat)) ∧ w' = X) := Lib.hid fun X => by
    have := field_c X w 25 7 hw (by decide)
    rw [Nat.mod_eq_of_lt (show w / 2 ^ 25 < 2 ^ 7 by omega)] at this
    rw [← hu]; exact this
  obtain ⟨t, ht⟩ : ∃ t, 32 * u + a = t := ⟨_, rfl⟩
  have eT : 32 * (u : Int) + (a : Int) = (t : Int) := by omega
  have lt : t < 4096 := by omega
  have S1 := Lib.hid (fun X => signed_c X v lv)
  have S2 := Lib.hid (fun X => signed_c X t lt)
  obtain ⟨i1, hi1⟩ : ∃ x, s12 v = x := ⟨_, rfl⟩
  obtain ⟨i2, hi2⟩ : ∃ x, s12 t = x := ⟨_, rfl⟩
  rw [hi1] at S1
  rw [hi2] at S2
  obtain ⟨y, hy⟩ : ∃ y, v % 256 = y := ⟨_, rfl⟩
  have eY : (v : Int) % 256 = (y : Int) := by omega
  have HE : Hid (rg w 7 = a ∧ w / 4096 % 8 = q ∧ rg w 15 = b ∧ rg w 20 = c ∧ rg w 27 = d ∧ s12 (w / 1048576) = i1 ∧ s12 (32 * (w / 33554432) + rg w 7) = i2 ∧ w / 1048576 % 256 = y) := Lib.hid ⟨ha, hq, hb, hc, hd, by rw [hv]; exact hi1, by rw [hu, ha, ht]; exact hi2, by rw [hv]; exact hy⟩
  clear ha hq hb hc hd hv hu ht hi1 hi2 hy
  have k0 := Blk.new W (instV zeroI) 27
  have HX : Hid (ofRow w ⟨op, form, frm, kind, mask, mtch, 6⟩ = ⟨op, form, frm, kind, a, b, 0, 0, q, 0, 0⟩) := Lib.hid (by
    obtain ⟨rfl, rfl, rfl, rfl, rfl, rfl, rfl, rfl⟩ := HE.out
    rfl)
  go_enter Try.func43, Try.ntmps43
  go_wp2_with (first
    | (go_at_call 25; (with_reducible refine (C1.out _).mono ?_); rintro e w1 ⟨rfl, hb⟩; clear C1)
    | (go_at_call 69; (with_reducible refine (F1.out _).mono ?_); rintro e w2 ⟨rfl, rfl⟩)
    | (go_at_call 69; (with_reducible refine (F2.out _).mono ?_); rintro e w2 ⟨rfl, rfl⟩)
    | (go_at_call 69; (with_reducible refine (F3.out _).mono ?_); rintro e w2 ⟨rfl, rfl⟩)
    | (go_at_call 69; (with_reducible refine (F4.out _).mono ?_); rintro e w2 ⟨rfl, rfl⟩)
    | (go_at_call 69; (with_reducible refine (F5.out _).mono ?_); rintro e w2 ⟨rfl, rfl⟩)
    | (go_at_call 69; (with_reducible refine (F6.out _).mono ?_); rintro e w2 ⟨rfl, rfl⟩)
    | (go_at_call 69; (with_reducible refine (F7.out _).mono ?_); rintro e w2 ⟨rfl, rfl⟩)
    | (go_at_call 70; (with_reducible refine (S1.out _).mono ?_); rintro e w2 ⟨rfl, rfl⟩)
    | (go_at_call 70; (with_reducible refine (S2.out _).mono ?_); rintro e w2 ⟨rfl, rfl⟩)
    | (refine wpList_store_blk rfl _ _ _ rfl _ _ rfl rfl _ _ ((((k0.below hb (by simp)).alloc _).alloc _).alloc _) (by kernel_rfl) rfl (by simp [Value.oneCell']) ?_))
  have hb1 : W.heap.size + 1 ≤ w1.heap.size := by have := hb.size; simpa using this
  have k1 := ((((k0.below hb (by simp)).alloc (.cells (entV ⟨op, form, frm, kind, mask, mtch, 6⟩ nm) 42)).alloc (.cells (rowV ⟨op, form, frm, kind, mask, mtch, 6⟩) 40)).alloc (.cells (instV ⟨op, form, frm, kind, a, b, 0, 0, q, 0, 0⟩) 27)).row (instV ⟨op, form, frm, kind, a, b, 0, 0, q, 0, 0⟩)
  exact bodyPost_ret (results_cell_tmp rfl _ _ W.heap.size _ _ _ rfl k1 Try.underlying27 rfl (by kernel_rfl)) rfl ⟨by rw [HD.out, HX.out]; rfl, below_setRow ((((((Below.refl W.heap.size W).alloc (Nat.le_refl _) _).trans (hb.mono (by simp))).alloc (by omega) _).alloc (by simp; omega) _).alloc (by simp; omega) _) (Nat.le_refl _) _⟩
theorem rdec_7 (W : World) (w : Nat) (hw : w < 4294967296) (r : R7) (nm : ByteArray) (h : FINDN w = some (r, nm)) (hlay : r.lay = 7) : Calls Try.prog 43 #[.int .u32 w] W (DecP W w) := by
  have hF : FIND w = some r := by rw [← findn_map, h]; rfl
  have hd : DEC w = some (ofRow w r) := by unfold DEC; rw [hF]; rfl
  have C1 : Hid (∀ X, Calls Try.prog 25 #[.int .u32 w] X fun e w' => e = .returned (.tuple #[.agg (entV r nm), .bool true]) ∧ Below X.heap.size X w') := Lib.hid fun X => by
    have := rfind_c X w hw
    unfold RFindP at this
    rw [h] at this
    exact this
  clear h hF
  have HD := Lib.hid hd
  clear hd
  obtain ⟨op, form, frm, kind, mask, mtch, lay⟩ := r
  simp only [] at hlay
  subst hlay
  obtain ⟨a, ha⟩ : ∃ x, rg w 7 = x := ⟨_, rfl⟩
  obtain ⟨q, hq⟩ : ∃ x, w / 4096 % 8 = x := ⟨_, rfl⟩
  obtain ⟨b, hb⟩ : ∃ x, rg w 15 = x := ⟨_, rfl⟩
  obtain ⟨c, hc⟩ : ∃ x, rg w 20 = x := ⟨_, rfl⟩
  obtain ⟨d, hd⟩ : ∃ x, rg w 27 = x := ⟨_, rfl⟩
  obtain ⟨v, hv⟩ : ∃ x, w / 1048576 = x := ⟨_, rfl⟩
  obtain ⟨u, hu⟩ : ∃ x, w / 33554432 = x := ⟨_, rfl⟩
  have la : a < 32 := by rw [← ha]; exact rg_lt _ _
  have lb : b < 32 := by rw [← hb]; exact rg_lt _ _
  have lc : c < 32 := by rw [← hc]; exact rg_lt _ _
  have ld : d < 32 := by rw [← hd]; exact rg_lt _ _
  have lq : q < 8 := by rw [← hq]; exact Nat.mod_lt _ (by decide)
  have lv : v < 4096 := by omega
  have lu : u < 128 := by omega
  have F1 : Hid (∀ X, Calls Try.prog 69 #[.int .u32 w, .int .i64 7, .int .i64 5] X fun e w' => e = .returned (.int .i64 (a : Nat)) ∧ w' = X) := Lib.hid fun X => by rw [← ha]; exact field_c X w 7 5 hw (by decide)
  have F2 : Hid (∀ X, Calls Try.prog 69 #[.int .u32 w, .int .i64 12, .int .i64 3] X fun e w' => e = .returned (.int .i64 (q : Nat)) ∧ w' = X) := Lib.hid fun X => by rw [← hq]; exact field_c X w 12 3 hw (by decide)
  have F3 : Hid (∀ X, Calls Try.prog 69 #[.int .u32 w, .int .i64 15, .int .i64 5] X fun e w' => e = .returned (.int .i64 (b : Nat)) ∧ w' = X) := Lib.hid fun X => by rw [← hb]; exact field_c X w 15 5 hw (by decide)
  have F4 : Hid (∀ X, Calls Try.prog 69 #[.int .u32 w, .int .i64 20, .int .i64 5] X fun e w' => e = .returned (.int .i64 (c : Nat)) ∧ w' = X) := Lib.hid fun X => by rw [← hc]; exact field_c X w 20 5 hw (by decide)
  have F5 : Hid (∀ X, Calls Try.prog 69 #[.int .u32 w, .int .i64 27, .int .i64 5] X fun e w' => e = .returned (.int .i64 (d : Nat)) ∧ w' = X) := Lib.hid fun X => by rw [← hd]; exact field_c X w 27 5 hw (by decide)
  have F6 : Hid (∀ X, Calls Try.prog 69 #[.int .u32 w, .int .i64 20, .int .i64 12] X fun e w' => e = .returned (.int .i64 (v : Nat)) ∧ w' = X) := Lib.hid fun X => by
    have := field_c X w 20 12 hw (by decide)
    rw [Nat.mod_eq_of_lt (show w / 2 ^ 20 < 2 ^ 12 by omega)] at this
    rw [← hv]; exact this
  have F7 : Hid (∀ X, Calls Try.prog 69 #[.int .u32 w, .int .i64 25, .int .i64 7] X fun e w' => e = .returned (.int .i64 (u : Nat)) ∧ w' = X) := Lib.hid fun X => by
    have := field_c X w 25 7 hw (by decide)
    rw [Nat.mod_eq_of_lt (show w / 2 ^ 25 < 2 ^ 7 by omega)] at this
    rw [← hu]; exact this
  obtain ⟨t, ht⟩ : ∃ t, 32 * u + a = t := ⟨_, rfl⟩
  have eT : 32 * (u : Int) + (a : Int) = (t : Int) := by omega
  have lt : t < 4096 := by omega
  have S1 := Lib.hid (fun X => signed_c X v lv)
  have S2 := Lib.hid (fun X => signed_c X t lt)
  obtain ⟨i1, hi1⟩ : ∃ x, s12 v = x := ⟨_, rfl⟩
  obtain ⟨i2, hi2⟩ : ∃ x, s12 t = x := ⟨_, rfl⟩
  rw [hi1] at S1
  rw [hi2] at S2
  obtain ⟨y, hy⟩ : ∃ y, v % 256 = y := ⟨_, rfl⟩
  have eY : (v : Int) % 256 = (y : Int) := by omega
  have HE : Hid (rg w 7 = a ∧ w / 4096 % 8 = q ∧ rg w 15 = b ∧ rg w 20 = c ∧ rg w 27 = d ∧ s12 (w / 1048576) = i1 ∧ s12 (32 * (w / 33554432) + rg w 7) = i2 ∧ w / 1048576 % 256 = y) := Lib.hid ⟨ha, hq, hb, hc, hd, by rw [hv]; exact hi1, by rw [hu, ha, ht]; exact hi2, by rw [hv]; exact hy⟩
  clear ha hq hb hc hd hv hu ht hi1 hi2 hy
  have k0 := Blk.new W (instV zeroI) 27
  have HX : Hid (ofRow w ⟨op, form, frm, kind, mask, mtch, 7⟩ = ⟨op, form, frm, kind, a, b, 0, 0, 0, 0, 0⟩) := Lib.hid (by
    obtain ⟨rfl, rfl, rfl, rfl, rfl, rfl, rfl, rfl⟩ := HE.out
    rfl)
  go_enter Try.func43, Try.ntmps43
  go_wp2_with (first
    | (go_at_call 25; (with_reducible refine (C1.out _).mono ?_); rintro e w1 ⟨rfl, hb⟩; clear C1)
    | (go_at_call 69; (with_reducible refine (F1.out _).mono ?_); rintro e w2 ⟨rfl, rfl⟩)
    | (go_at_call 69; (with_reducible refine (F2.out _).mono ?_); rintro e w2 ⟨rfl, rfl⟩)
    | (go_at_call 69; (with_reducible refine (F3.out _).mono ?_); rintro e w2 ⟨rfl, rfl⟩)
    | (go_at_call 69; (with_reducible refine (F4.out _).mono ?_); rintro e w2 ⟨rfl, rfl⟩)
    | (go_at_call 69; (with_reducible refine (F5.out _).mono ?_); rintro e w2 ⟨rfl, rfl⟩)
    | (go_at_call 69; (with_reducible refine (F6.out _).mono ?_); rintro e w2 ⟨rfl, rfl⟩)
    | (go_at_call 69; (with_reducible refine (F7.out _).mono ?_); rintro e w2 ⟨rfl, rfl⟩)
    | (go_at_call 70; (with_reducible refine (S1.out _).mono ?_); rintro e w2 ⟨rfl, rfl⟩)
    | (go_at_call 70; (with_reducible refine (S2.out _).mono ?_); rintro e w2 ⟨rfl, rfl⟩)
    | (refine wpList_store_blk rfl _ _ _ rfl _ _ rfl rfl _ _ ((((k0.below hb (by simp)).alloc _).alloc _).alloc _) (by kernel_rfl) rfl (by simp [Value.oneCell']) ?_))
  have hb1 : W.heap.size + 1 ≤ w1.heap.size := by have := hb.size; simpa using this
  have k1 := ((((k0.below hb (by simp)).alloc (.cells (entV ⟨op, form, frm, kind, mask, mtch, 7⟩ nm) 42)).alloc (.cells (rowV ⟨op, form, frm, kind, mask, mtch, 7⟩) 40)).alloc (.cells (instV ⟨op, form, frm, kind, a, b, 0, 0, 0, 0, 0⟩) 27)).row (instV ⟨op, form, frm, kind, a, b, 0, 0, 0, 0, 0⟩)
  exact bodyPost_ret (results_cell_tmp rfl _ _ W.heap.size _ _ _ rfl k1 Try.underlying27 rfl (by kernel_rfl)) rfl ⟨by rw [HD.out, HX.out]; rfl, below_setRow ((((((Below.refl W.heap.size W).alloc (Nat.le_refl _) _).trans (hb.mono (by simp))).alloc (by omega) _).alloc (by simp; omega) _).alloc (by simp; omega) _) (Nat.le_refl _) _⟩
theorem rdec_8 (W : World) (w : Nat) (hw : w < 4294967296) (r : R7) (nm : ByteArray) (h : FINDN w = some (r, nm)) (hlay : r.lay = 8) : Calls Try.prog 43 #[.int .u32 w] W (DecP W w) := by
  have hF : FIND w = some r := by rw [← findn_map, h]; rfl
  have hd : DEC w = some (ofRow w r) := by unfold DEC; rw [hF]; rfl
  have C1 : Hid (∀ X, Calls Try.prog 25 #[.int .u32 w] X fun e w' => e = .returned (.tuple #[.agg (entV r nm), .bool true]) ∧ Below X.heap.size X w') := Lib.hid fun X => by
    have := rfind_c X w hw
    unfold RFindP at this
    rw [h] at this
    exact this
  clear h hF
  have HD := Lib.hid hd
  clear hd
  obtain ⟨op, form, frm, kind, mask, mtch, lay⟩ := r
  simp only [] at hlay
  subst hlay
  obtain ⟨a, ha⟩ : ∃ x, rg w 7 = x := ⟨_, rfl⟩
  obtain ⟨q, hq⟩ : ∃ x, w / 4096 % 8 = x := ⟨_, rfl⟩
  obtain ⟨b, hb⟩ : ∃ x, rg w 15 = x := ⟨_, rfl⟩
  obtain ⟨c, hc⟩ : ∃ x, rg w 20 = x := ⟨_, rfl⟩
  obtain ⟨d, hd⟩ : ∃ x, rg w 27 = x := ⟨_, rfl⟩
  obtain ⟨v, hv⟩ : ∃ x, w / 1048576 = x := ⟨_, rfl⟩
  obtain ⟨u, hu⟩ : ∃ x, w / 33554432 = x := ⟨_, rfl⟩
  have la : a < 32 := by rw [← ha]; exact rg_lt _ _
  have lb : b < 32 := by rw [← hb]; exact rg_lt _ _
  have lc : c < 32 := by rw [← hc]; exact rg_lt _ _
  have ld : d < 32 := by rw [← hd]; exact rg_lt _ _
  have lq : q < 8 := by rw [← hq]; exact Nat.mod_lt _ (by decide)
  have lv : v < 4096 := by omega
  have lu : u < 128 := by omega
  have F1 : Hid (∀ X, Calls Try.prog 69 #[.int .u32 w, .int .i64 7, .int .i64 5] X fun e w' => e = .returned (.int .i64 (a : Nat)) ∧ w' = X) := Lib.hid fun X => by rw [← ha]; exact field_c X w 7 5 hw (by decide)
  have F2 : Hid (∀ X, Calls Try.prog 69 #[.int .u32 w, .int .i64 12, .int .i64 3] X fun e w' => e = .returned (.int .i64 (q : Nat)) ∧ w' = X) := Lib.hid fun X => by rw [← hq]; exact field_c X w 12 3 hw (by decide)
  have F3 : Hid (∀ X, Calls Try.prog 69 #[.int .u32 w, .int .i64 15, .int .i64 5] X fun e w' => e = .returned (.int .i64 (b : Nat)) ∧ w' = X) := Lib.hid fun X => by rw [← hb]; exact field_c X w 15 5 hw (by decide)
  have F4 : Hid (∀ X, Calls Try.prog 69 #[.int .u32 w, .int .i64 20, .int .i64 5] X fun e w' => e = .returned (.int .i64 (c : Nat)) ∧ w' = X) := Lib.hid fun X => by rw [← hc]; exact field_c X w 20 5 hw (by decide)
  have F5 : Hid (∀ X, Calls Try.prog 69 #[.int .u32 w, .int .i64 27, .int .i64 5] X fun e w' => e = .returned (.int .i64 (d : Nat)) ∧ w' = X) := Lib.hid fun X => by rw [← hd]; exact field_c X w 27 5 hw (by decide)
  have F6 : Hid (∀ X, Calls Try.prog 69 #[.int .u32 w, .int .i64 20, .int .i64 12] X fun e w' => e = .returned (.int .i64 (v : Nat)) ∧ w' = X) := Lib.hid fun X => by
    have := field_c X w 20 12 hw (by decide)
    rw [Nat.mod_eq_of_lt (show w / 2 ^ 20 < 2 ^ 12 by omega)] at this
    rw [← hv]; exact this
  have F7 : Hid (∀ X, Calls Try.prog 69 #[.int .u32 w, .int .i64 25, .int .i64 7] X fun e w' => e = .returned (.int .i64 (u : Nat)) ∧ w' = X) := Lib.hid fun X => by
    have := field_c X w 25 7 hw (by decide)
    rw [Nat.mod_eq_of_lt (show w / 2 ^ 25 < 2 ^ 7 by omega)] at this
    rw [← hu]; exact this
  obtain ⟨t, ht⟩ : ∃ t, 32 * u + a = t := ⟨_, rfl⟩
  have eT : 32 * (u : Int) + (a : Int) = (t : Int) := by omega
  have lt : t < 4096 := by omega
  have S1 := Lib.hid (fun X => signed_c X v lv)
  have S2 := Lib.hid (fun X => signed_c X t lt)
  obtain ⟨i1, hi1⟩ : ∃ x, s12 v = x := ⟨_, rfl⟩
  obtain ⟨i2, hi2⟩ : ∃ x, s12 t = x := ⟨_, rfl⟩
  rw [hi1] at S1
  rw [hi2] at S2
  obtain ⟨y, hy⟩ : ∃ y, v % 256 = y := ⟨_, rfl⟩
  have eY : (v : Int) % 256 = (y : Int) := by omega
  have HE : Hid (rg w 7 = a ∧ w / 4096 % 8 = q ∧ rg w 15 = b ∧ rg w 20 = c ∧ rg w 27 = d ∧ s12 (w / 1048576) = i1 ∧ s12 (32 * (w / 33554432) + rg w 7) = i2 ∧ w / 1048576 % 256 = y) := Lib.hid ⟨ha, hq, hb, hc, hd, by rw [hv]; exact hi1, by rw [hu, ha, ht]; exact hi2, by rw [hv]; exact hy⟩
  clear ha hq hb hc hd hv hu ht hi1 hi2 hy
  have k0 := Blk.new W (instV zeroI) 27
  have HX : Hid (ofRow w ⟨op, form, frm, kind, mask, mtch, 8⟩ = ⟨op, form, frm, kind, a, b, 0, 0, 0, 0, y⟩) := Lib.hid (by
    obtain ⟨rfl, rfl, rfl, rfl, rfl, rfl, rfl, rfl⟩ := HE.out
    rfl)
  go_enter Try.func43, Try.ntmps43
  go_wp2_with (first
    | (go_at_call 25; (with_reducible refine (C1.out _).mono ?_); rintro e w1 ⟨rfl, hb⟩; clear C1)
    | (go_at_call 69; (with_reducible refine (F1.out _).mono ?_); rintro e w2 ⟨rfl, rfl⟩)
    | (go_at_call 69; (with_reducible refine (F2.out _).mono ?_); rintro e w2 ⟨rfl, rfl⟩)
    | (go_at_call 69; (with_reducible refine (F3.out _).mono ?_); rintro e w2 ⟨rfl, rfl⟩)
    | (go_at_call 69; (with_reducible refine (F4.out _).mono ?_); rintro e w2 ⟨rfl, rfl⟩)
    | (go_at_call 69; (with_reducible refine (F5.out _).mono ?_); rintro e w2 ⟨rfl, rfl⟩)
    | (go_at_call 69; (with_reducible refine (F6.out _).mono ?_); rintro e w2 ⟨rfl, rfl⟩)
    | (go_at_call 69; (with_reducible refine (F7.out _).mono ?_); rintro e w2 ⟨rfl, rfl⟩)
    | (go_at_call 70; (with_reducible refine (S1.out _).mono ?_); rintro e w2 ⟨rfl, rfl⟩)
    | (go_at_call 70; (with_reducible refine (S2.out _).mono ?_); rintro e w2 ⟨rfl, rfl⟩)
    | (refine wpList_store_blk rfl _ _ _ rfl _ _ rfl rfl _ _ ((((k0.below hb (by simp)).alloc _).alloc _).alloc _) (by kernel_rfl) rfl (by simp [Value.oneCell']) ?_))
  have hb1 : W.heap.size + 1 ≤ w1.heap.size := by have := hb.size; simpa using this
  have k1 := ((((k0.below hb (by simp)).alloc (.cells (entV ⟨op, form, frm, kind, mask, mtch, 8⟩ nm) 42)).alloc (.cells (rowV ⟨op, form, frm, kind, mask, mtch, 8⟩) 40)).alloc (.cells (instV ⟨op, form, frm, kind, a, b, 0, 0, 0, 0, y⟩) 27)).row (instV ⟨op, form, frm, kind, a, b, 0, 0, 0, 0, y⟩)
  exact bodyPost_ret (results_cell_tmp rfl _ _ W.heap.size _ _ _ rfl k1 Try.underlying27 rfl (by kernel_rfl)) rfl ⟨by rw [HD.out, HX.out]; rfl, below_setRow ((((((Below.refl W.heap.size W).alloc (Nat.le_refl _) _).trans (hb.mono (by simp))).alloc (by omega) _).alloc (by simp; omega) _).alloc (by simp; omega) _) (Nat.le_refl _) _⟩
theorem rdec_9 (W : World) (w : Nat) (hw : w < 4294967296) (r : R7) (nm : ByteArray) (h : FINDN w = some (r, nm)) (hlay : r.lay = 9) : Calls Try.prog 43 #[.int .u32 w] W (DecP W w) := by
  have hF : FIND w = some r := by rw [← findn_map, h]; rfl
  have hd : DEC w = some (ofRow w r) := by unfold DEC; rw [hF]; rfl
  have C1 : Hid (∀ X, Calls Try.prog 25 #[.int .u32 w] X fun e w' => e = .returned (.tuple #[.agg (entV r nm), .bool true]) ∧ Below X.heap.size X w') := Lib.hid fun X => by
    have := rfind_c X w hw
    unfold RFindP at this
    rw [h] at this
    exact this
  clear h hF
  have HD := Lib.hid hd
  clear hd
  obtain ⟨op, form, frm, kind, mask, mtch, lay⟩ := r
  simp only [] at hlay
  subst hlay
  obtain ⟨a, ha⟩ : ∃ x, rg w 7 = x := ⟨_, rfl⟩
  obtain ⟨q, hq⟩ : ∃ x, w / 4096 % 8 = x := ⟨_, rfl⟩
  obtain ⟨b, hb⟩ : ∃ x, rg w 15 = x := ⟨_, rfl⟩
  obtain ⟨c, hc⟩ : ∃ x, rg w 20 = x := ⟨_, rfl⟩
  obtain ⟨d, hd⟩ : ∃ x, rg w 27 = x := ⟨_, rfl⟩
  obtain ⟨v, hv⟩ : ∃ x, w / 1048576 = x := ⟨_, rfl⟩
  obtain ⟨u, hu⟩ : ∃ x, w / 33554432 = x := ⟨_, rfl⟩
  have la : a < 32 := by rw [← ha]; exact rg_lt _ _
  have lb : b < 32 := by rw [← hb]; exact rg_lt _ _
  have lc : c < 32 := by rw [← hc]; exact rg_lt _ _
  have ld : d < 32 := by rw [← hd]; exact rg_lt _ _
  have lq : q < 8 := by rw [← hq]; exact Nat.mod_lt _ (by decide)
  have lv : v < 4096 := by omega
  have lu : u < 128 := by omega
  have F1 : Hid (∀ X, Calls Try.prog 69 #[.int .u32 w, .int .i64 7, .int .i64 5] X fun e w' => e = .returned (.int .i64 (a : Nat)) ∧ w' = X) := Lib.hid fun X => by rw [← ha]; exact field_c X w 7 5 hw (by decide)
  have F2 : Hid (∀ X, Calls Try.prog 69 #[.int .u32 w, .int .i64 12, .int .i64 3] X fun e w' => e = .returned (.int .i64 (q : Nat)) ∧ w' = X) := Lib.hid fun X => by rw [← hq]; exact field_c X w 12 3 hw (by decide)
  have F3 : Hid (∀ X, Calls Try.prog 69 #[.int .u32 w, .int .i64 15, .int .i64 5] X fun e w' => e = .returned (.int .i64 (b : Nat)) ∧ w' = X) := Lib.hid fun X => by rw [← hb]; exact field_c X w 15 5 hw (by decide)
  have F4 : Hid (∀ X, Calls Try.prog 69 #[.int .u32 w, .int .i64 20, .int .i64 5] X fun e w' => e = .returned (.int .i64 (c : Nat)) ∧ w' = X) := Lib.hid fun X => by rw [← hc]; exact field_c X w 20 5 hw (by decide)
  have F5 : Hid (∀ X, Calls Try.prog 69 #[.int .u32 w, .int .i64 27, .int .i64 5] X fun e w' => e = .returned (.int .i64 (d : Nat)) ∧ w' = X) := Lib.hid fun X => by rw [← hd]; exact field_c X w 27 5 hw (by decide)
  have F6 : Hid (∀ X, Calls Try.prog 69 #[.int .u32 w, .int .i64 20, .int .i64 12] X fun e w' => e = .returned (.int .i64 (v : Nat)) ∧ w' = X) := Lib.hid fun X => by
    have := field_c X w 20 12 hw (by decide)
    rw [Nat.mod_eq_of_lt (show w / 2 ^ 20 < 2 ^ 12 by omega)] at this
    rw [← hv]; exact this
  have F7 : Hid (∀ X, Calls Try.prog 69 #[.int .u32 w, .int .i64 25, .int .i64 7] X fun e w' => e = .returned (.int .i64 (u : Nat)) ∧ w' = X) := Lib.hid fun X => by
    have := field_c X w 25 7 hw (by decide)
    rw [Nat.mod_eq_of_lt (show w / 2 ^ 25 < 2 ^ 7 by omega)] at this
    rw [← hu]; exact this
  obtain ⟨t, ht⟩ : ∃ t, 32 * u + a = t := ⟨_, rfl⟩
  have eT : 32 * (u : Int) + (a : Int) = (t : Int) := by omega
  have lt : t < 4096 := by omega
  have S1 := Lib.hid (fun X => signed_c X v lv)
  have S2 := Lib.hid (fun X => signed_c X t lt)
  obtain ⟨i1, hi1⟩ : ∃ x, s12 v = x := ⟨_, rfl⟩
  obtain ⟨i2, hi2⟩ : ∃ x, s12 t = x := ⟨_, rfl⟩
  rw [hi1] at S1
  rw [hi2] at S2
  obtain ⟨y, hy⟩ : ∃ y, v % 256 = y := ⟨_, rfl⟩
  have eY : (v : Int) % 256 = (y : Int) := by omega
  have HE : Hid (rg w 7 = a ∧ w / 4096 % 8 = q ∧ rg w 15 = b ∧ rg w 20 = c ∧ rg w 27 = d ∧ s12 (w / 1048576) = i1 ∧ s12 (32 * (w / 33554432) + rg w 7) = i2 ∧ w / 1048576 % 256 = y) := Lib.hid ⟨ha, hq, hb, hc, hd, by rw [hv]; exact hi1, by rw [hu, ha, ht]; exact hi2, by rw [hv]; exact hy⟩
  clear ha hq hb hc hd hv hu ht hi1 hi2 hy
  have k0 := Blk.new W (instV zeroI) 27
  have HX : Hid (ofRow w ⟨op, form, frm, kind, mask, mtch, 9⟩ = ⟨op, form, frm, kind, a, b, 0, 0, 0, 0, y⟩) := Lib.hid (by
    obtain ⟨rfl, rfl, rfl, rfl, rfl, rfl, rfl, rfl⟩ := HE.out
    rfl)
  go_enter Try.func43, Try.ntmps43
  go_wp2_with (first
    | (go_at_call 25; (with_reducible refine (C1.out _).mono ?_); rintro e w1 ⟨rfl, hb⟩; clear C1)
    | (go_at_call 69; (with_reducible refine (F1.out _).mono ?_); rintro e w2 ⟨rfl, rfl⟩)
    | (go_at_call 69; (with_reducible refine (F2.out _).mono ?_); rintro e w2 ⟨rfl, rfl⟩)
    | (go_at_call 69; (with_reducible refine (F3.out _).mono ?_); rintro e w2 ⟨rfl, rfl⟩)
    | (go_at_call 69; (with_reducible refine (F4.out _).mono ?_); rintro e w2 ⟨rfl, rfl⟩)
    | (go_at_call 69; (with_reducible refine (F5.out _).mono ?_); rintro e w2 ⟨rfl, rfl⟩)
    | (go_at_call 69; (with_reducible refine (F6.out _).mono ?_); rintro e w2 ⟨rfl, rfl⟩)
    | (go_at_call 69; (with_reducible refine (F7.out _).mono ?_); rintro e w2 ⟨rfl, rfl⟩)
    | (go_at_call 70; (with_reducible refine (S1.out _).mono ?_); rintro e w2 ⟨rfl, rfl⟩)
    | (go_at_call 70; (with_reducible refine (S2.out _).mono ?_); rintro e w2 ⟨rfl, rfl⟩)
    | (refine wpList_store_blk rfl _ _ _ rfl _ _ rfl rfl _ _ ((((k0.below hb (by simp)).alloc _).alloc _).alloc _) (by kernel_rfl) rfl (by simp [Value.oneCell']) ?_))
  have hb1 : W.heap.size + 1 ≤ w1.heap.size := by have := hb.size; simpa using this
  have k1 := ((((k0.below hb (by simp)).alloc (.cells (entV ⟨op, form, frm, kind, mask, mtch, 9⟩ nm) 42)).alloc (.cells (rowV ⟨op, form, frm, kind, mask, mtch, 9⟩) 40)).alloc (.cells (instV ⟨op, form, frm, kind, a, b, 0, 0, 0, 0, y⟩) 27)).row (instV ⟨op, form, frm, kind, a, b, 0, 0, 0, 0, y⟩)
  exact bodyPost_ret (results_cell_tmp rfl _ _ W.heap.size _ _ _ rfl k1 Try.underlying27 rfl (by kernel_rfl)) rfl ⟨by rw [HD.out, HX.out]; rfl, below_setRow ((((((Below.refl W.heap.size W).alloc (Nat.le_refl _) _).trans (hb.mono (by simp))).alloc (by omega) _).alloc (by simp; omega) _).alloc (by simp; omega) _) (Nat.le_refl _) _⟩
end Go.Proofs.Yteelconabmfnkaa
