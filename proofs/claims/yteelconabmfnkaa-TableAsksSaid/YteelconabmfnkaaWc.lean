/- table.Named; abacusref24.ByName, Name. -/
import Derived.Test.YteelconabmfnkaaWb
import Derived.Test.YteelconabmfnkaaVj
import Derived.Test.YteelconabmfnkaaLb
namespace Go.Proofs.Yteelconabmfnkaa
open Go Go.RowKit
set_option maxHeartbeats 4000000
set_option maxRecDepth 100000
set_option linter.unusedVariables false
set_option linter.unusedSimpArgs false
/-- the cells of the row k of entries' slice, at any later world -/
theorem ent_cell {w1 wr : World} {B g cap k j : Nat} {p : R7 × ByteArray} {v : Value} (h : OwnE B w1 (.slice (some ⟨g, 0, none⟩) 136 cap) ALLN) (hb : Below w1.heap.size w1 wr) (hp : ALLN[k]? = some p) (hj : j < 8) (hv : (entV p.1 p.2)[j]? = some v) : wr.cell? ⟨g, k * 8 + j, none⟩ = some v := by
  have h1 := (own_cell h).2.2 (k * 8 + j) v (by rw [ents_get ALLN k j p hp hj]; exact hv)
  exact (hb.cell (World.block_lt_of_cell? w1 _ h1)).trans h1
/-- the row of a name -/
def named (s : ByteArray) (p : R7 × ByteArray) : Bool := p.2.toList == s.toList
def NAMED (s : ByteArray) : Option (R7 × ByteArray) := ALLN.find? (named s)
def NamedP (W : World) (s : ByteArray) (e : Ending) (w' : World) : Prop := e = .returned (.tuple #[.agg (rowV ((NAMED s).getD NONE2).1), .int .i64 (errOf (NAMED s))]) ∧ Below W.heap.size W w'
/-- the name of a row -/
def isRow7 (r : R7) (p : R7 × ByteArray) : Bool := decide (p.1 = r)
def NAMEOF (r : R7) : Option (R7 × ByteArray) := ALLN.find? (isRow7 r)
def NameP (W : World) (r : R7) (e : Ending) (w' : World) : Prop := e = .returned (.tuple #[.string ((NAMEOF r).getD NONE2).2, .int .i64 (errOf (NAMEOF r))]) ∧ Below W.heap.size W w'
theorem named_c (W : World) (s : ByteArray) : Calls Try.prog 32 #[.string s] W (NamedP W s) := by
  have k0 := Blk.new W (rowV zeroR) 40
  have H0 : Hid (∀ y ∈ ALLN.take 0, named s y = false) := Lib.hid (fun y h => by simp at h)
  go_enter Try.func32, Try.ntmps32
  go_wp2_with (first
    | (go_at_call 66; (with_reducible refine (entries_c _).mono ?_); rintro e w1 ⟨g, cap, rfl, hO, hB⟩))
  have HO := Lib.hid hO
  have KZ := Lib.hid (k0.below hB (by simp))
  have KB := Lib.hid (((Below.refl W.heap.size W).alloc (Nat.le_refl _) (.cells (rowV zeroR) 40)).trans (hB.mono (by simp)))
  have HW1 : Hid (W.heap.size + 1 ≤ w1.heap.size) := Lib.hid (by have := hB.size; simpa using this)
  clear hO hB k0
  go_loopw [8] (fun i wr => ∃ k : Nat, k ≤ 136 ∧ i = .int .i64 k ∧ Below w1.heap.size w1 wr ∧ Hid (∀ y ∈ ALLN.take k, named s y = false)) (fun i _ => 136 - (intOf i).toNat)
  case atStart => exact ⟨0, by omega, rfl, Below.refl _ _, H0⟩
  case round =>
    obtain ⟨k, hk, rfl, hb, HN⟩ := hrel
    clear H0
    by_cases hlt : k < 136
    · obtain ⟨p, hp⟩ : ∃ p, ALLN[k]? = some p := ⟨_, List.getElem?_eq_getElem (by rw [alln_136]; exact hlt)⟩
      obtain ⟨r, nm⟩ := p
      have d0 : wr.cell? ⟨g, k * 8, none⟩ = some (.int .u8 (r.op : Nat)) := ent_cell (j := 0) HO.out hb hp (by decide) rfl
      have d1 : wr.cell? ⟨g, k * 8 + 1, none⟩ = some (.int .u8 (r.form : Nat)) := ent_cell (j := 1) HO.out hb hp (by decide) rfl
      have d2 : wr.cell? ⟨g, k * 8 + 2, none⟩ = some (.int .u8 (r.frm : Nat)) := ent_cell (j := 2) HO.out hb hp (by decide) rfl
      have d3 : wr.cell? ⟨g, k * 8 + 3, none⟩ = some (.int .u8 (r.kind : Nat)) := ent_cell (j := 3) HO.out hb hp (by decide) rfl
      have d4 : wr.cell? ⟨g, k * 8 + 4, none⟩ = some (.int .u32 (r.mask : Nat)) := ent_cell (j := 4) HO.out hb hp (by decide) rfl
      have d5 : wr.cell? ⟨g, k * 8 + 5, none⟩ = some (.int .u32 (r.mtch : Nat)) := ent_cell (j := 5) HO.out hb hp (by decide) rfl
      have d6 : wr.cell? ⟨g, k * 8 + 6, none⟩ = some (.int .u8 (r.lay : Nat)) := ent_cell (j := 6) HO.out hb hp (by decide) rfl
      have d7 : wr.cell? ⟨g, k * 8 + 7, none⟩ = some (.string nm) := ent_cell (j := 7) HO.out hb hp (by decide) rfl
      have hq : named s (r, nm) = (nm.toList == s.toList) := rfl
      have HP := Lib.hid hp
      have HBL := Lib.hid hb
      clear hp hb
      cases hf : (nm.toList == s.toList)
      · have HT := Lib.hid (take_no (q := named s) HP.out (hq.trans hf) HN.out)
        clear hq
        go_wp2
        go_roundw
        case rel => exact ⟨k + 1, by omega, by go_num, HBL.out.alloc HBL.out.size _, HT⟩
        case measure => simp [intOf]; omega
      · have HF := Lib.hid (find_at (named s) ALLN k (r, nm) HP.out (hq.trans hf) HN.out)
        have hb3 : Below w1.heap.size w1 (wr.alloc (.cells (entV r nm) 119)) := HBL.out.alloc HBL.out.size _
        have kz := KZ.out.below hb3 (by have := HW1.out; omega)
        clear hq
        go_wp2_with (first
          | (refine wpList_store_blk rfl _ _ _ rfl _ _ rfl rfl _ _ kz (by kernel_rfl) rfl (by simp [Value.oneCell']) ?_))
        refine bodyPost_ret (results_cell_tmp rfl _ _ W.heap.size _ _ _ rfl (kz.row _) Try.underlying40 rfl (by kernel_rfl)) rfl ?_
        unfold NamedP NAMED
        rw [HF.out]
        exact ⟨rfl, below_setRow (KB.out.trans (hb3.mono (by have := HW1.out; omega))) (Nat.le_refl _) _⟩
    · obtain rfl : k = 136 := by omega
      have HF := Lib.hid (find_no (named s) ALLN (fun y hy => HN.out y (by rw [List.take_of_length_le (by rw [alln_136]; exact Nat.le_refl _)]; exact hy)))
      have kz := KZ.out.below hb (by have := HW1.out; omega)
      go_wp2_with (first
        | (refine wpList_store_blk rfl _ _ _ rfl _ _ rfl rfl _ _ kz (by kernel_rfl) rfl (by simp [Value.oneCell']) ?_))
      refine bodyPost_ret (results_cell_tmp rfl _ _ W.heap.size _ _ _ rfl (kz.row _) Try.underlying40 rfl (by kernel_rfl)) rfl ?_
      unfold NamedP NAMED
      rw [HF.out]
      exact ⟨rfl, below_setRow (KB.out.trans (hb.mono (by have := HW1.out; omega))) (Nat.le_refl _) _⟩
theorem rbyname_c (W : World) (s : ByteArray) : Calls Try.prog 49 #[.string s] W (NamedP W s) := by
  have k0 := Blk.new W (rowV zeroR) 40
  have H0 : Hid (∀ y ∈ ALLN.take 0, named s y = false) := Lib.hid (fun y h => by simp at h)
  go_enter Try.func49, Try.ntmps49
  go_wp2_with (first
    | (go_at_call 28; (with_reducible refine (all_c _).mono ?_); rintro e w1 ⟨g, cap, rfl, hO, hB⟩))
  have HO := Lib.hid hO
  have KZ := Lib.hid (k0.below hB (by simp))
  have KB := Lib.hid (((Below.refl W.heap.size W).alloc (Nat.le_refl _) (.cells (rowV zeroR) 40)).trans (hB.mono (by simp)))
  have HW1 : Hid (W.heap.size + 1 ≤ w1.heap.size) := Lib.hid (by have := hB.size; simpa using this)
  clear hO hB k0
  go_loopw [5] (fun i wr => ∃ k : Nat, k ≤ 136 ∧ i = .int .i64 k ∧ Below w1.heap.size w1 wr ∧ Hid (∀ y ∈ ALLN.take k, named s y = false)) (fun i _ => 136 - (intOf i).toNat)
  case atStart => exact ⟨0, by omega, rfl, Below.refl _ _, H0⟩
  case round =>
    obtain ⟨k, hk, rfl, hb, HN⟩ := hrel
    clear H0
    by_cases hlt : k < 136
    · obtain ⟨p, hp⟩ : ∃ p, ALLN[k]? = some p := ⟨_, List.getElem?_eq_getElem (by rw [alln_136]; exact hlt)⟩
      obtain ⟨r, nm⟩ := p
      have d0 : wr.cell? ⟨g, k * 8, none⟩ = some (.int .u8 (r.op : Nat)) := all_cell (j := 0) HO.out hb hp (by decide) rfl
      have d1 : wr.cell? ⟨g, k * 8 + 1, none⟩ = some (.int .u8 (r.form : Nat)) := all_cell (j := 1) HO.out hb hp (by decide) rfl
      have d2 : wr.cell? ⟨g, k * 8 + 2, none⟩ = some (.int .u8 (r.frm : Nat)) := all_cell (j := 2) HO.out hb hp (by decide) rfl
      have d3 : wr.cell? ⟨g, k * 8 + 3, none⟩ = some (.int .u8 (r.kind : Nat)) := all_cell (j := 3) HO.out hb hp (by decide) rfl
      have d4 : wr.cell? ⟨g, k * 8 + 4, none⟩ = some (.int .u32 (r.mask : Nat)) := all_cell (j := 4) HO.out hb hp (by decide) rfl
      have d5 : wr.cell? ⟨g, k * 8 + 5, none⟩ = some (.int .u32 (r.mtch : Nat)) := all_cell (j := 5) HO.out hb hp (by decide) rfl
      have d6 : wr.cell? ⟨g, k * 8 + 6, none⟩ = some (.int .u8 (r.lay : Nat)) := all_cell (j := 6) HO.out hb hp (by decide) rfl
      have d7 : wr.cell? ⟨g, k * 8 + 7, none⟩ = some (.string nm) := all_cell (j := 7) HO.out hb hp (by decide) rfl
      have hq : named s (r, nm) = (nm.toList == s.toList) := rfl
      have HP := Lib.hid hp
      have HBL := Lib.hid hb
      clear hp hb
      cases hf : (nm.toList == s.toList)
      · have HT := Lib.hid (take_no (q := named s) HP.out (hq.trans hf) HN.out)
        clear hq
        go_wp2
        go_roundw
        case rel => exact ⟨k + 1, by omega, by go_num, HBL.out, HT⟩
        case measure => simp [intOf]; omega
      · have HF := Lib.hid (find_at (named s) ALLN k (r, nm) HP.out (hq.trans hf) HN.out)
        have hb3 : Below w1.heap.size w1 wr := HBL.out
        have kz := KZ.out.below hb3 (by have := HW1.out; omega)
        clear hq
        go_wp2_with (first
          | (refine wpList_store_blk rfl _ _ _ rfl _ _ rfl rfl _ _ kz (by kernel_rfl) rfl (by simp [Value.oneCell']) ?_))
        refine bodyPost_ret (results_cell_tmp rfl _ _ W.heap.size _ _ _ rfl (kz.row _) Try.underlying40 rfl (by kernel_rfl)) rfl ?_
        unfold NamedP NAMED
        rw [HF.out]
        exact ⟨rfl, below_setRow (KB.out.trans (hb3.mono (by have := HW1.out; omega))) (Nat.le_refl _) _⟩
    · obtain rfl : k = 136 := by omega
      have HF := Lib.hid (find_no (named s) ALLN (fun y hy => HN.out y (by rw [List.take_of_length_le (by rw [alln_136]; exact Nat.le_refl _)]; exact hy)))
      have kz := KZ.out.below hb (by have := HW1.out; omega)
      go_wp2_with (first
        | (refine wpList_store_blk rfl _ _ _ rfl _ _ rfl rfl _ _ kz (by kernel_rfl) rfl (by simp [Value.oneCell']) ?_))
      refine bodyPost_ret (results_cell_tmp rfl _ _ W.heap.size _ _ _ rfl (kz.row _) Try.underlying40 rfl (by kernel_rfl)) rfl ?_
      unfold NamedP NAMED
      rw [HF.out]
      exact ⟨rfl, below_setRow (KB.out.trans (hb.mono (by have := HW1.out; omega))) (Nat.le_refl _) _⟩
theorem rname_c (W : World) (x : R7) : Calls Try.prog 48 #[.agg (rowV x)] W (NameP W x) := by
  have k0 := Blk.new W (rowV x) 40
  have H0 : Hid (∀ y ∈ ALLN.take 0, isRow7 x y = false) := Lib.hid (fun y h => by simp at h)
  have EQ := Lib.hid (fun r => eq_row r x)
  obtain ⟨xop, xform, xfrm, xkind, xmask, xmtch, xlay⟩ := x
  go_enter Try.func48, Try.ntmps48
  go_wp2_with (first
    | (go_at_call 28; (with_reducible refine (all_c _).mono ?_); rintro e w1 ⟨g, cap, rfl, hO, hB⟩))
  have HO := Lib.hid hO
  have KZ := Lib.hid (k0.below hB (by simp))
  have KB := Lib.hid (((Below.refl W.heap.size W).alloc (Nat.le_refl _) (.cells (rowV ⟨xop, xform, xfrm, xkind, xmask, xmtch, xlay⟩) 40)).trans (hB.mono (by simp)))
  have HW1 : Hid (W.heap.size + 1 ≤ w1.heap.size) := Lib.hid (by have := hB.size; simpa using this)
  clear hO hB k0
  go_loopw [5] (fun i wr => ∃ k : Nat, k ≤ 136 ∧ i = .int .i64 k ∧ Below w1.heap.size w1 wr ∧ Hid (∀ y ∈ ALLN.take k, isRow7 ⟨xop, xform, xfrm, xkind, xmask, xmtch, xlay⟩ y = false)) (fun i _ => 136 - (intOf i).toNat)
  case atStart => exact ⟨0, by omega, rfl, Below.refl _ _, H0⟩
  case round =>
    obtain ⟨k, hk, rfl, hb, HN⟩ := hrel
    clear H0
    by_cases hlt : k < 136
    · obtain ⟨p, hp⟩ : ∃ p, ALLN[k]? = some p := ⟨_, List.getElem?_eq_getElem (by rw [alln_136]; exact hlt)⟩
      obtain ⟨r, nm⟩ := p
      have d0 : wr.cell? ⟨g, k * 8, none⟩ = some (.int .u8 (r.op : Nat)) := all_cell (j := 0) HO.out hb hp (by decide) rfl
      have d1 : wr.cell? ⟨g, k * 8 + 1, none⟩ = some (.int .u8 (r.form : Nat)) := all_cell (j := 1) HO.out hb hp (by decide) rfl
      have d2 : wr.cell? ⟨g, k * 8 + 2, none⟩ = some (.int .u8 (r.frm : Nat)) := all_cell (j := 2) HO.out hb hp (by decide) rfl
      have d3 : wr.cell? ⟨g, k * 8 + 3, none⟩ = some (.int .u8 (r.kind : Nat)) := all_cell (j := 3) HO.out hb hp (by decide) rfl
      have d4 : wr.cell? ⟨g, k * 8 + 4, none⟩ = some (.int .u32 (r.mask : Nat)) := all_cell (j := 4) HO.out hb hp (by decide) rfl
      have d5 : wr.cell? ⟨g, k * 8 + 5, none⟩ = some (.int .u32 (r.mtch : Nat)) := all_cell (j := 5) HO.out hb hp (by decide) rfl
      have d6 : wr.cell? ⟨g, k * 8 + 6, none⟩ = some (.int .u8 (r.lay : Nat)) := all_cell (j := 6) HO.out hb hp (by decide) rfl
      have d7 : wr.cell? ⟨g, k * 8 + 7, none⟩ = some (.string nm) := all_cell (j := 7) HO.out hb hp (by decide) rfl
      have kx := KZ.out.below hb (by have := HW1.out; omega)
      have x0 := kx.cell 0
      have x1 := kx.cell 1
      have x2 := kx.cell 2
      have x3 := kx.cell 3
      have x4 := kx.cell 4
      have x5 := kx.cell 5
      have x6 := kx.cell 6
      simp only [List.getElem?_toArray, List.getElem?_cons_succ, List.getElem?_cons_zero] at x0 x1 x2 x3 x4 x5 x6
      have hq : isRow7 ⟨xop, xform, xfrm, xkind, xmask, xmtch, xlay⟩ (r, nm) = decide (r = ⟨xop, xform, xfrm, xkind, xmask, xmtch, xlay⟩) := rfl
      have heq := EQ.out r
      have HP := Lib.hid hp
      have HBL := Lib.hid hb
      clear hp hb kx
      obtain ⟨b, hf⟩ : ∃ b, decide (r = (⟨xop, xform, xfrm, xkind, xmask, xmtch, xlay⟩ : R7)) = b := ⟨_, rfl⟩
      rw [hf] at heq hq
      clear hf
      cases b
      · have HT := Lib.hid (take_no (q := isRow7 ⟨xop, xform, xfrm, xkind, xmask, xmtch, xlay⟩) HP.out hq HN.out)
        clear hq
        go_wp2
        go_quiet (fail)
        go_wp2
        go_roundw
        case rel => exact ⟨k + 1, by omega, by go_num, below_drewN HBL.out, HT⟩
        case measure => simp [intOf]; omega
      · have HF := Lib.hid (find_at (isRow7 ⟨xop, xform, xfrm, xkind, xmask, xmtch, xlay⟩) ALLN k (r, nm) HP.out hq HN.out)
        clear hq
        go_wp2
        go_quiet (fail)
        go_wp2
        go_ret2
        unfold NameP NAMEOF
        rw [HF.out]
        exact ⟨rfl, below_drewN (KB.out.trans (HBL.out.mono (by have := HW1.out; omega)))⟩
    · obtain rfl : k = 136 := by omega
      have HF := Lib.hid (find_no (isRow7 ⟨xop, xform, xfrm, xkind, xmask, xmtch, xlay⟩) ALLN (fun y hy => HN.out y (by rw [List.take_of_length_le (by rw [alln_136]; exact Nat.le_refl _)]; exact hy)))
      go_wp2
      go_ret2
      unfold NameP NAMEOF
      rw [HF.out]
      exact ⟨rfl, KB.out.trans (hb.mono (by have := HW1.out; omega))⟩
end Go.Proofs.Yteelconabmfnkaa
