/- abacusref24.Find, Of. -/
import Derived.Test.YteelconabmfnkaaVh
import Derived.Test.YteelconabmfnkaaVi
import Derived.Test.YteelconabmfnkaaPf
namespace Go.Proofs.Yteelconabmfnkaa
open Go Go.RowKit
set_option maxHeartbeats 4000000
set_option maxRecDepth 100000
set_option linter.unusedVariables false
set_option linter.unusedSimpArgs false
abbrev NONE2 : R7 × ByteArray := (zeroR, emp)
def FINDN (x : Nat) : Option (R7 × ByteArray) := ALLN.find? fun p => fitsB p.1 x
def asked (op f g k : Nat) (p : R7 × ByteArray) : Bool := p.1.op == op && (p.1.form == f && (p.1.frm == g && p.1.kind == k))
def OFN (op f g k : Nat) : Option (R7 × ByteArray) := ALLN.find? (asked op f g k)
theorem find_map {α β : Type} (f : α → β) (q : β → Bool) (l : List α) : (l.find? fun p => q (f p)).map f = (l.map f).find? q := by
  induction l with
  | nil => rfl
  | cons a l ih =>
    rw [List.map_cons, List.find?_cons, List.find?_cons]
    split
    · rfl
    · exact ih
theorem findn_map (x : Nat) : (FINDN x).map (·.1) = FIND x := by
  unfold FINDN FIND
  rw [← alln_rows]
  exact find_map (fun p : R7 × ByteArray => p.1) (fun r => fitsB r x) ALLN
theorem alln_mem {p : R7 × ByteArray} (h : p ∈ ALLN) : p.1 ∈ ROWS := by rw [← alln_rows]; exact List.mem_map_of_mem h
theorem find_at {α : Type} (q : α → Bool) (l : List α) (k : Nat) (p : α) (h : l[k]? = some p) (hp : q p = true) (hno : ∀ y ∈ l.take k, q y = false) : l.find? q = some p := by
  obtain ⟨hk, hkp⟩ := List.getElem?_eq_some_iff.1 h
  have e : l = l.take k ++ (p :: l.drop (k + 1)) := by rw [← hkp, ← List.drop_eq_getElem_cons hk, List.take_append_drop]
  rw [e, List.find?_append, List.find?_eq_none.2 (fun y hy => by rw [hno y hy]; simp), Option.none_or, List.find?_cons_of_pos hp]
theorem find_no {α : Type} (q : α → Bool) (l : List α) (hno : ∀ y ∈ l, q y = false) : l.find? q = none := List.find?_eq_none.2 (fun y hy => by rw [hno y hy]; simp)
theorem take_no {α : Type} {q : α → Bool} {l : List α} {k : Nat} {p : α} (h : l[k]? = some p) (hp : q p = false) (hno : ∀ y ∈ l.take k, q y = false) : ∀ y ∈ l.take (k + 1), q y = false := fun y hy => by
  rw [List.take_add_one, h] at hy
  rcases List.mem_append.1 hy with h1 | h1
  · exact hno y h1
  · simp at h1; subst h1; exact hp
/-- the cells of the row k of All's slice, at any later world -/
theorem all_cell {w1 wr : World} {B g cap k j : Nat} {p : R7 × ByteArray} {v : Value} (h : Own B w1 (.slice (some ⟨g, 0, none⟩) 136 cap) ALLN) (hb : Below w1.heap.size w1 wr) (hp : ALLN[k]? = some p) (hj : j < 8) (hv : (entV p.1 p.2)[j]? = some v) : wr.cell? ⟨g, k * 8 + j, none⟩ = some v := by
  have h1 := (own_cell h).2.2 (k * 8 + j) v (by rw [ents_get ALLN k j p hp hj]; exact hv)
  exact (hb.cell (World.block_lt_of_cell? w1 _ h1)).trans h1
theorem row_mask {r : R7} (h : r ∈ ROWS) : r.mask < 4294967296 ∧ r.mtch < 4294967296 := by
  unfold ROWS at h
  obtain ⟨s, hs, hr⟩ := List.mem_flatMap.1 h
  exact ⟨(mask_opc s hs r hr).2.2.1, (mask_opc s hs r hr).2.2.2⟩
def RFindP (W : World) (x : Nat) (e : Ending) (w' : World) : Prop := e = .returned (.tuple #[.agg (entV ((FINDN x).getD NONE2).1 ((FINDN x).getD NONE2).2), .bool (FINDN x).isSome]) ∧ Below W.heap.size W w'
theorem rfind_c (W : World) (x : Nat) (hx : x < 4294967296) : Calls Try.prog 25 #[.int .u32 x] W (RFindP W x) := by
  have k0 := Blk.new W (entV zeroR emp) 42
  have H0 : Hid (∀ y ∈ ALLN.take 0, fitsB y.1 x = false) := Lib.hid (fun y h => by simp at h)
  go_enter Try.func25, Try.ntmps25
  go_wp2_with (first
    | (go_at_call 28; (with_reducible refine (all_c _).mono ?_); rintro e w1 ⟨g, cap, rfl, hO, hB⟩))
  have hB' := hB
  simp only [World.size_alloc] at hB'
  have HO := Lib.hid hO
  have KZ := Lib.hid (k0.below hB (by simp))
  have KB := Lib.hid (((Below.refl W.heap.size W).alloc (Nat.le_refl _) (.cells (entV zeroR emp) 42)).trans (hB.mono (by simp)))
  have HW1 : Hid (W.heap.size + 1 ≤ w1.heap.size) := Lib.hid (by have := hB.size; simpa using this)
  clear hO hB hB' k0
  go_loopw [5] (fun i wr => ∃ k : Nat, k ≤ 136 ∧ i = .int .i64 k ∧ Below w1.heap.size w1 wr ∧ Hid (∀ y ∈ ALLN.take k, fitsB y.1 x = false)) (fun i _ => 136 - (intOf i).toNat)
  case atStart => exact ⟨0, by omega, rfl, Below.refl _ _, H0⟩
  case round =>
    obtain ⟨k, hk, rfl, hb, HN⟩ := hrel
    clear H0
    by_cases hlt : k < 136
    · obtain ⟨p, hp⟩ : ∃ p, ALLN[k]? = some p := ⟨_, List.getElem?_eq_getElem (by rw [alln_136]; exact hlt)⟩
      have hpm := alln_mem (List.mem_of_getElem? hp)
      obtain ⟨r, nm⟩ := p
      have d0 : wr.cell? ⟨g, k * 8, none⟩ = some (.int .u8 (r.op : Nat)) := all_cell (j := 0) HO.out hb hp (by decide) rfl
      have d1 : wr.cell? ⟨g, k * 8 + 1, none⟩ = some (.int .u8 (r.form : Nat)) := all_cell (j := 1) HO.out hb hp (by decide) rfl
      have d2 : wr.cell? ⟨g, k * 8 + 2, none⟩ = some (.int .u8 (r.frm : Nat)) := all_cell (j := 2) HO.out hb hp (by decide) rfl
      have d3 : wr.cell? ⟨g, k * 8 + 3, none⟩ = some (.int .u8 (r.kind : Nat)) := all_cell (j := 3) HO.out hb hp (by decide) rfl
      have d4 : wr.cell? ⟨g, k * 8 + 4, none⟩ = some (.int .u32 (r.mask : Nat)) := all_cell (j := 4) HO.out hb hp (by decide) rfl
      have d5 : wr.cell? ⟨g, k * 8 + 5, none⟩ = some (.int .u32 (r.mtch : Nat)) := all_cell (j := 5) HO.out hb hp (by decide) rfl
      have d6 : wr.cell? ⟨g, k * 8 + 6, none⟩ = some (.int .u8 (r.lay : Nat)) := all_cell (j := 6) HO.out hb hp (by decide) rfl
      have d7 : wr.cell? ⟨g, k * 8 + 7, none⟩ = some (.string nm) := all_cell (j := 7) HO.out hb hp (by decide) rfl
      have F := row_mask hpm
      have C1 := Lib.hid (fun X => rfits_c X r x F.1 F.2 hx)
      have HP := Lib.hid hp
      have HBL := Lib.hid hb
      clear hp hpm F hb
      cases hf : fitsB r x
      · rw [hf] at C1
        go_wp2_with (first
          | (go_at_call 36; (with_reducible refine (C1.out _).mono ?_); rintro e w2 ⟨rfl, hb2⟩))
        go_roundw
        case rel => exact ⟨k + 1, by omega, by go_num, HBL.out.trans (hb2.mono HBL.out.size), Lib.hid (take_no (q := fun y => fitsB y.1 x) HP.out hf HN.out)⟩
        case measure => simp [intOf]; omega
      · rw [hf] at C1
        have HF := Lib.hid (find_at (fun y => fitsB y.1 x) ALLN k (r, nm) HP.out hf HN.out)
        go_wp2_with (first
          | (go_at_call 36; (with_reducible refine (C1.out _).mono ?_); rintro e w2 ⟨rfl, hb2⟩; have hb3 := HBL.out.trans (hb2.mono HBL.out.size); have kz := KZ.out.below hb3 (by have := HW1.out; omega); have t0 : w2.cell? ⟨g, k * 8, none⟩ = some (.int .u8 (r.op : Nat)) := all_cell (j := 0) HO.out hb3 HP.out (by decide) rfl; have t1 : w2.cell? ⟨g, k * 8 + 1, none⟩ = some (.int .u8 (r.form : Nat)) := all_cell (j := 1) HO.out hb3 HP.out (by decide) rfl; have t2 : w2.cell? ⟨g, k * 8 + 2, none⟩ = some (.int .u8 (r.frm : Nat)) := all_cell (j := 2) HO.out hb3 HP.out (by decide) rfl; have t3 : w2.cell? ⟨g, k * 8 + 3, none⟩ = some (.int .u8 (r.kind : Nat)) := all_cell (j := 3) HO.out hb3 HP.out (by decide) rfl; have t4 : w2.cell? ⟨g, k * 8 + 4, none⟩ = some (.int .u32 (r.mask : Nat)) := all_cell (j := 4) HO.out hb3 HP.out (by decide) rfl; have t5 : w2.cell? ⟨g, k * 8 + 5, none⟩ = some (.int .u32 (r.mtch : Nat)) := all_cell (j := 5) HO.out hb3 HP.out (by decide) rfl; have t6 : w2.cell? ⟨g, k * 8 + 6, none⟩ = some (.int .u8 (r.lay : Nat)) := all_cell (j := 6) HO.out hb3 HP.out (by decide) rfl; have t7 : w2.cell? ⟨g, k * 8 + 7, none⟩ = some (.string nm) := all_cell (j := 7) HO.out hb3 HP.out (by decide) rfl)
          | (refine wpList_store_blk rfl _ _ _ rfl _ _ rfl rfl _ _ kz (by kernel_rfl) rfl (by simp [Value.oneCell']) ?_))
        refine bodyPost_ret (results_cell_tmp rfl _ _ W.heap.size _ _ _ rfl (kz.row _) Try.underlying42 rfl (by kernel_rfl)) rfl ?_
        unfold RFindP FINDN
        rw [HF.out]
        exact ⟨rfl, below_setRow (KB.out.trans (hb3.mono (by have := HW1.out; omega))) (Nat.le_refl _) _⟩
    · obtain rfl : k = 136 := by omega
      have HF := Lib.hid (find_no (fun y => fitsB y.1 x) ALLN (fun y hy => HN.out y (by rw [List.take_of_length_le (by rw [alln_136]; exact Nat.le_refl _)]; exact hy)))
      have kz := KZ.out.below hb (by have := HW1.out; omega)
      go_wp2_with (first
        | (refine wpList_store_blk rfl _ _ _ rfl _ _ rfl rfl _ _ kz (by kernel_rfl) rfl (by simp [Value.oneCell']) ?_))
      refine bodyPost_ret (results_cell_tmp rfl _ _ W.heap.size _ _ _ rfl (kz.row _) Try.underlying42 rfl (by kernel_rfl)) rfl ?_
      unfold RFindP FINDN
      rw [HF.out]
      exact ⟨rfl, below_setRow (KB.out.trans (hb.mono (by have := HW1.out; omega))) (Nat.le_refl _) _⟩
def ROfP (W : World) (op f g k : Nat) (e : Ending) (w' : World) : Prop := e = .returned (.tuple (if op < 1 ∨ 31 < op then #[.agg (entV zeroR emp), .int .i64 2] else #[.agg (entV ((OFN op f g k).getD NONE2).1 ((OFN op f g k).getD NONE2).2), .int .i64 (errOf (OFN op f g k))])) ∧ Below W.heap.size W w'
theorem rof_arg (W : World) (op f g k : Nat) (h : op < 1 ∨ 31 < op) : Calls Try.prog 47 #[.int .u8 op, .int .u8 f, .int .u8 g, .int .u8 k] W (ROfP W op f g k) := by
  have k0 := Blk.new W (entV zeroR emp) 42
  unfold ROfP
  rw [if_pos h]
  rcases h with h | h
  · have z1 : decide ((op : Int) < 1) = true := decide_eq_true (by omega)
    go_enter Try.func47, Try.ntmps47
    go_wp2_with (first
      | (refine wpList_store_blk rfl _ _ _ rfl _ _ rfl rfl _ _ k0 (by kernel_rfl) rfl (by simp [Value.oneCell']) ?_))
    refine bodyPost_ret (results_cell_tmp rfl _ _ W.heap.size _ _ _ rfl (k0.row _) Try.underlying42 rfl (by kernel_rfl)) rfl ?_
    exact ⟨rfl, below_setRow ((Below.refl W.heap.size W).alloc (Nat.le_refl _) _) (Nat.le_refl _) _⟩
  · have z1 : decide ((op : Int) < 1) = false := decide_eq_false (by omega)
    have z2 : decide (31 < (op : Int)) = true := decide_eq_true (by omega)
    go_enter Try.func47, Try.ntmps47
    go_wp2_with (first
      | (refine wpList_store_blk rfl _ _ _ rfl _ _ rfl rfl _ _ k0 (by kernel_rfl) rfl (by simp [Value.oneCell']) ?_))
    refine bodyPost_ret (results_cell_tmp rfl _ _ W.heap.size _ _ _ rfl (k0.row _) Try.underlying42 rfl (by kernel_rfl)) rfl ?_
    exact ⟨rfl, below_setRow ((Below.refl W.heap.size W).alloc (Nat.le_refl _) _) (Nat.le_refl _) _⟩
theorem rof_c (W : World) (op f h n : Nat) : Calls Try.prog 47 #[.int .u8 op, .int .u8 f, .int .u8 h, .int .u8 n] W (ROfP W op f h n) := by
  by_cases hr : op < 1 ∨ 31 < op
  · exact rof_arg W op f h n hr
  unfold ROfP
  rw [if_neg hr]
  have z1 : decide ((op : Int) < 1) = false := decide_eq_false (by omega)
  have z2 : decide (31 < (op : Int)) = false := decide_eq_false (by omega)
  have k0 := Blk.new W (entV zeroR emp) 42
  have H0 : Hid (∀ y ∈ ALLN.take 0, asked op f h n y = false) := Lib.hid (fun y h => by simp at h)
  clear hr
  go_enter Try.func47, Try.ntmps47
  go_wp2_with (first
    | (go_at_call 28; (with_reducible refine (all_c _).mono ?_); rintro e w1 ⟨g, cap, rfl, hO, hB⟩))
  have HO := Lib.hid hO
  have KZ := Lib.hid (k0.below hB (by simp))
  have KB := Lib.hid (((Below.refl W.heap.size W).alloc (Nat.le_refl _) (.cells (entV zeroR emp) 42)).trans (hB.mono (by simp)))
  have HW1 : Hid (W.heap.size + 1 ≤ w1.heap.size) := Lib.hid (by have := hB.size; simpa using this)
  clear hO hB k0 z1 z2
  go_loopw [11] (fun i wr => ∃ k : Nat, k ≤ 136 ∧ i = .int .i64 k ∧ Below w1.heap.size w1 wr ∧ Hid (∀ y ∈ ALLN.take k, asked op f h n y = false)) (fun i _ => 136 - (intOf i).toNat)
  case atStart => exact ⟨0, by omega, rfl, Below.refl _ _, H0⟩
  case round =>
    obtain ⟨k, hk, rfl, hb, HN⟩ := hrel
    clear H0
    by_cases hlt : k < 136
    · obtain ⟨p, hp⟩ : ∃ p, ALLN[k]? = some p := ⟨_, List.getElem?_eq_getElem (by rw [alln_136]; exact hlt)⟩
      obtain ⟨r, nm⟩ := p
      have d0 : wr.cell? ⟨g, k * 8, none⟩ = some (.int .u8 (r.op : Nat)) := all_cell (j := 0) HO.out hb hp (by decide) rfl
      have d1 : wr.cell? ⟨g, k * 8 + 1, none⟩ = some (.int .u8 (r.form : Nat)) := all_cell (j := 1) HO.out hb hp (by decide) rfl
      have d2 : wr.cell? ⟨g, k * 8 + 2, none⟩ = some (.int .u8 (r.frm : Nat)) := all_cell (j := 2) HO.out hb hp (by decide) rfl
      have d3 : wr.cell? ⟨g, k * 8 + 3, none⟩ = some (.int .u8 (r.kind : Nat)) := all_cell (j := 3) HO.out hb hp (by decide) rfl
      have d4 : wr.cell? ⟨g, k * 8 + 4, none⟩ = some (.int .u32 (r.mask : Nat)) := all_cell (j := 4) HO.out hb hp (by decide) rfl
      have d5 : wr.cell? ⟨g, k * 8 + 5, none⟩ = some (.int .u32 (r.mtch : Nat)) := all_cell (j := 5) HO.out hb hp (by decide) rfl
      have d6 : wr.cell? ⟨g, k * 8 + 6, none⟩ = some (.int .u8 (r.lay : Nat)) := all_cell (j := 6) HO.out hb hp (by decide) rfl
      have d7 : wr.cell? ⟨g, k * 8 + 7, none⟩ = some (.string nm) := all_cell (j := 7) HO.out hb hp (by decide) rfl
      have HP := Lib.hid hp
      have HBL := Lib.hid hb
      clear hp hb
      have y1 := beq_cast r.op op
      have y2 := beq_cast r.form f
      have y3 := beq_cast r.frm h
      have y4 := beq_cast r.kind n
      have HAS : Hid (asked op f h n (r, nm) = (r.op == op && (r.form == f && (r.frm == h && r.kind == n)))) := Lib.hid rfl
      generalize (r.op == op) = b1 at *
      generalize (r.form == f) = b2 at *
      generalize (r.frm == h) = b3 at *
      generalize (r.kind == n) = b4 at *
      rcases (by cases b1 <;> cases b2 <;> cases b3 <;> cases b4 <;> simp : b1 = false ∨ (b1 = true ∧ b2 = false) ∨ (b1 = true ∧ b2 = true ∧ b3 = false) ∨ (b1 = true ∧ b2 = true ∧ b3 = true ∧ b4 = false) ∨ (b1 = true ∧ b2 = true ∧ b3 = true ∧ b4 = true)) with rfl | ⟨rfl, rfl⟩ | ⟨rfl, rfl, rfl⟩ | ⟨rfl, rfl, rfl, rfl⟩ | ⟨rfl, rfl, rfl, rfl⟩
      rotate_right
      · have HF := Lib.hid (find_at (asked op f h n) ALLN k (r, nm) HP.out (by rw [HAS.out]; rfl) HN.out)
        have kz := (KZ.out.below HBL.out (by have := HW1.out; omega)).alloc (.cells (rowV r) 40)
        have hb3 := HBL.out.alloc HBL.out.size (.cells (rowV r) 40)
        have t0 : (wr.alloc (.cells (rowV r) 40)).cell? ⟨g, k * 8, none⟩ = some (.int .u8 (r.op : Nat)) := all_cell (j := 0) HO.out hb3 HP.out (by decide) rfl
        have t1 : (wr.alloc (.cells (rowV r) 40)).cell? ⟨g, k * 8 + 1, none⟩ = some (.int .u8 (r.form : Nat)) := all_cell (j := 1) HO.out hb3 HP.out (by decide) rfl
        have t2 : (wr.alloc (.cells (rowV r) 40)).cell? ⟨g, k * 8 + 2, none⟩ = some (.int .u8 (r.frm : Nat)) := all_cell (j := 2) HO.out hb3 HP.out (by decide) rfl
        have t3 : (wr.alloc (.cells (rowV r) 40)).cell? ⟨g, k * 8 + 3, none⟩ = some (.int .u8 (r.kind : Nat)) := all_cell (j := 3) HO.out hb3 HP.out (by decide) rfl
        have t4 : (wr.alloc (.cells (rowV r) 40)).cell? ⟨g, k * 8 + 4, none⟩ = some (.int .u32 (r.mask : Nat)) := all_cell (j := 4) HO.out hb3 HP.out (by decide) rfl
        have t5 : (wr.alloc (.cells (rowV r) 40)).cell? ⟨g, k * 8 + 5, none⟩ = some (.int .u32 (r.mtch : Nat)) := all_cell (j := 5) HO.out hb3 HP.out (by decide) rfl
        have t6 : (wr.alloc (.cells (rowV r) 40)).cell? ⟨g, k * 8 + 6, none⟩ = some (.int .u8 (r.lay : Nat)) := all_cell (j := 6) HO.out hb3 HP.out (by decide) rfl
        have t7 : (wr.alloc (.cells (rowV r) 40)).cell? ⟨g, k * 8 + 7, none⟩ = some (.string nm) := all_cell (j := 7) HO.out hb3 HP.out (by decide) rfl
        go_wp2_with (first
          | (refine wpList_store_blk rfl _ _ _ rfl _ _ rfl rfl _ _ kz (by kernel_rfl) rfl (by simp [Value.oneCell']) ?_))
        refine bodyPost_ret (results_cell_tmp rfl _ _ W.heap.size _ _ _ rfl (kz.row _) Try.underlying42 rfl (by kernel_rfl)) rfl ?_
        unfold OFN
        rw [HF.out]
        exact ⟨rfl, below_setRow (KB.out.trans (hb3.mono (by have := HW1.out; omega))) (Nat.le_refl _) _⟩
      all_goals
        have HT := Lib.hid (take_no (q := asked op f h n) HP.out (by rw [HAS.out]; simp) HN.out)
        go_wp2
        go_roundw
        case rel => exact ⟨k + 1, by omega, by go_num, HBL.out.alloc HBL.out.size _, HT⟩
        case measure => simp [intOf]; omega
    · obtain rfl : k = 136 := by omega
      have HF := Lib.hid (find_no (asked op f h n) ALLN (fun y hy => HN.out y (by rw [List.take_of_length_le (by rw [alln_136]; exact Nat.le_refl _)]; exact hy)))
      have kz := KZ.out.below hb (by have := HW1.out; omega)
      go_wp2_with (first
        | (refine wpList_store_blk rfl _ _ _ rfl _ _ rfl rfl _ _ kz (by kernel_rfl) rfl (by simp [Value.oneCell']) ?_))
      refine bodyPost_ret (results_cell_tmp rfl _ _ W.heap.size _ _ _ rfl (kz.row _) Try.underlying42 rfl (by kernel_rfl)) rfl ?_
      unfold OFN
      rw [HF.out]
      exact ⟨rfl, below_setRow (KB.out.trans (hb.mono (by have := HW1.out; omega))) (Nat.le_refl _) _⟩
end Go.Proofs.Yteelconabmfnkaa
