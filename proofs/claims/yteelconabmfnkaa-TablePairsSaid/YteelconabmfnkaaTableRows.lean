/- The law TableRows: its walk. -/
import Derived.Test.YteelconabmfnkaaWf
namespace Go.Proofs.Yteelconabmfnkaa
open Go Go.RowKit
set_option maxHeartbeats 4000000
set_option maxRecDepth 100000
set_option linter.unusedVariables false
set_option linter.unusedSimpArgs false
theorem alln_names : ∀ p ∈ ALLN, ∀ q ∈ ALLN, p.2 = q.2 → p = q := by
  have h : (ALLN.all fun p => ALLN.all fun q => !(decide (p.2 = q.2)) || decide (p = q)) = true := by decide +kernel
  intro p hp q hq h1
  have := List.all_eq_true.1 (List.all_eq_true.1 h p hp) q hq
  simpa [h1] using this
theorem nameof_mem {p : R7 × ByteArray} (hp : p ∈ ALLN) : NAMEOF p.1 = some p := by
  unfold NAMEOF
  cases h : ALLN.find? (isRow7 p.1) with
  | none => exact absurd (decide_eq_true (rfl : p.1 = p.1)) (List.find?_eq_none.1 h p hp)
  | some q =>
    have h3 := List.find?_some h
    have h4 : decide (q.1 = p.1) = true := h3
    have e := of_decide_eq_true h4
    rw [alln_keys q (List.mem_of_find?_eq_some h) p hp (by rw [e]) (by rw [e])]
theorem named_mem {p : R7 × ByteArray} (hp : p ∈ ALLN) : NAMED p.2 = some p := by
  unfold NAMED
  cases h : ALLN.find? (named p.2) with
  | none =>
    have := List.find?_eq_none.1 h p hp
    exact absurd (show named p.2 p = true by unfold named; simp) this
  | some q =>
    have h3 := List.find?_some h
    have h4 : (q.2.toList == p.2.toList) = true := h3
    have e : q.2 = p.2 := by
      have h5 := eq_of_beq h4
      rw [ByteArray.toList_eq, ByteArray.toList_eq] at h5
      exact ByteArray.ext (Array.ext' h5)
    rw [alln_names q (List.mem_of_find?_eq_some h) p hp e]
/-- what Rows' row is: its block -/
theorem ownr_blk {w : World} {B g cap : Nat} (h : OwnR B w (.slice (some ⟨g, 0, none⟩) 136 cap) ROWS) : ∃ cur, Blk w g cur 40 ∧ B ≤ g ∧ ∀ j, j < 952 → cur[j]? = (rws ROWS)[j]? := by
  rcases h.2 with ⟨h1, _⟩ | ⟨g', cap', cur, h1, h2, h3, _, _, _, h7⟩
  · simp at h1
  · simp only [Value.slice.injEq, Option.some.injEq, Addr.mk.injEq] at h1
    obtain ⟨⟨rfl, _⟩, _, rfl⟩ := h1
    refine ⟨cur, h3, h2, fun j hj => ?_⟩
    rw [← h7, List.getElem?_take, if_pos (by rw [rows_136]; omega)]
    simp
theorem row_at {cur : Array Value} {k : Nat} {r : R7} (h : ∀ j, k * 7 ≤ j → j < 952 → cur[j]? = (rws ROWS)[j]?) (hk : k < 136) (hr : ROWS[k]? = some r) {w : World} {g : Nat} (hb : Blk w g cur 40) (j : Nat) (hj : j < 7) : w.cell? ⟨g, k * 7 + j, none⟩ = (rowV r)[j]? := by
  rw [hb.cell, h _ (by omega) (by omega), rws_get ROWS k j r hr hj]
theorem walk_TableRows (W : World) : Calls Try.prog 6 #[] W fun e w' => e = .returned (.bool true) ∧ Below W.heap.size W w' := by
  go_enter Try.func6, Try.ntmps6
  go_wp2_with (first
    | (go_at_call 28; (with_reducible refine (all_c _).mono ?_); rintro e w1 ⟨g, cap, rfl, hO, hB⟩))
  have HO := Lib.hid hO
  have HB := Lib.hid hB
  clear hO hB
  go_loopw [2] (fun t wr => ∃ n : Nat, n ≤ 2 ∧ t = .int .i64 n ∧ Below w1.heap.size w1 wr) (fun t _ => 2 - (intOf t).toNat)
  case atStart => exact ⟨0, by omega, rfl, Below.refl _ _⟩
  case round =>
    obtain ⟨n, hn, rfl, hb0⟩ := hrel
    by_cases hlt2 : n < 2
    · have HB0 := Lib.hid hb0
      clear hb0
      go_wp2_with (first
        | (go_at_call 29; (with_reducible refine (rows_c _).mono ?_); rintro e w2 ⟨g2, cap2, rfl, hR, hb2⟩)
        | (go_at_call 30; (with_reducible refine (len_c _).mono ?_); rintro e w3 ⟨rfl, hb3⟩))
      obtain ⟨cur0, hc0, hg2, hcur⟩ := ownr_blk hR
      have HG2 : Hid (w1.heap.size ≤ g2) := Lib.hid (Nat.le_trans HB0.out.size hg2)
      have HB3 : Hid (Below w1.heap.size w1 w3) := Lib.hid ((HB0.out.trans (hb2.mono HB0.out.size)).trans (hb3.mono (Nat.le_trans HB0.out.size hb2.size)))
      have HC0 := Lib.hid (hc0.call hb3)
      have HCUR := Lib.hid hcur
      clear hR hb2 hb3 hc0 hg2 hcur
      go_loopw [4] (fun i wr => ∃ (k : Nat) (cur : Array Value), k ≤ 136 ∧ i = .int .i64 k ∧ Blk wr g2 cur 40 ∧ (∀ j, k * 7 ≤ j → j < 952 → cur[j]? = (rws ROWS)[j]?) ∧ Below w1.heap.size w1 wr) (fun i _ => 136 - (intOf i).toNat)
      case atStart => exact ⟨0, cur0, by omega, rfl, HC0.out, fun j _ hj => HCUR.out j hj, HB3.out⟩
      case round =>
        obtain ⟨k, cur, hk, rfl, hcb, hcu, hb⟩ := hrel
        clear HC0 HCUR cur0 HB3
        by_cases hlt : k < 136
        · obtain ⟨p, hp⟩ : ∃ p, ALLN[k]? = some p := ⟨_, List.getElem?_eq_getElem (by rw [alln_136]; exact hlt)⟩
          have hpm := List.mem_of_getElem? hp
          have hna := nameof_mem hpm
          have hnd := named_mem hpm
          obtain ⟨⟨op, form, frm, kind, mask, mtch, lay⟩, nm⟩ := p
          have F := row_mask (alln_mem hpm)
          have hrow : ROWS[k]? = some ⟨op, form, frm, kind, mask, mtch, lay⟩ := by rw [← alln_rows, List.getElem?_map, hp]; rfl
          simp only [] at hna hnd
          have CN : Hid (∀ X, Calls Try.prog 31 #[.agg (rowV ⟨op, form, frm, kind, mask, mtch, lay⟩)] X fun e w' => e = .returned (.tuple #[.string nm, .int .i64 0]) ∧ Below X.heap.size X w') := Lib.hid fun X => by
            have := name_c X ⟨op, form, frm, kind, mask, mtch, lay⟩ F.1 F.2
            unfold NameP at this
            rw [hna] at this
            exact this
          have CD : Hid (∀ X, Calls Try.prog 32 #[.string nm] X fun e w' => e = .returned (.tuple #[.agg (rowV ⟨op, form, frm, kind, mask, mtch, lay⟩), .int .i64 0]) ∧ Below X.heap.size X w') := Lib.hid fun X => by
            have := named_c X nm
            unfold NamedP at this
            rw [hnd] at this
            exact this
          have HP := Lib.hid hp
          have HRW := Lib.hid hrow
          have d0 : wr.cell? ⟨g, k * 8, none⟩ = some (.int .u8 (op : Nat)) := all_cell (j := 0) HO.out hb HP.out (by decide) rfl
          have d1 : wr.cell? ⟨g, k * 8 + 1, none⟩ = some (.int .u8 (form : Nat)) := all_cell (j := 1) HO.out hb HP.out (by decide) rfl
          have d2 : wr.cell? ⟨g, k * 8 + 2, none⟩ = some (.int .u8 (frm : Nat)) := all_cell (j := 2) HO.out hb HP.out (by decide) rfl
          have d3 : wr.cell? ⟨g, k * 8 + 3, none⟩ = some (.int .u8 (kind : Nat)) := all_cell (j := 3) HO.out hb HP.out (by decide) rfl
          have d4 : wr.cell? ⟨g, k * 8 + 4, none⟩ = some (.int .u32 (mask : Nat)) := all_cell (j := 4) HO.out hb HP.out (by decide) rfl
          have d5 : wr.cell? ⟨g, k * 8 + 5, none⟩ = some (.int .u32 (mtch : Nat)) := all_cell (j := 5) HO.out hb HP.out (by decide) rfl
          have d6 : wr.cell? ⟨g, k * 8 + 6, none⟩ = some (.int .u8 (lay : Nat)) := all_cell (j := 6) HO.out hb HP.out (by decide) rfl
          have d7 : wr.cell? ⟨g, k * 8 + 7, none⟩ = some (.string nm) := all_cell (j := 7) HO.out hb HP.out (by decide) rfl
          have HBL := Lib.hid hb
          have HCB := Lib.hid hcb
          have HCU := Lib.hid hcu
          have hne : ∀ X, (binOp .neq 40 (.agg (rowV ⟨op, form, frm, kind, mask, mtch, lay⟩)) (.agg (rowV ⟨op, form, frm, kind, mask, mtch, lay⟩))).run Try.prog X = .ok (.bool false) X := fun X => by rw [neq_row, decide_eq_true rfl]; rfl
          clear hp hpm hna hnd F hrow hb hcb hcu
          go_upto_region 13 with (first
            | (go_at_call 31; (with_reducible refine (CN.out _).mono ?_); rintro e w5 ⟨rfl, hb5⟩; clear CN; have hb6 := HBL.out.trans (hb5.mono HBL.out.size); have t7 : w5.cell? ⟨g, k * 8 + 7, none⟩ = some (.string nm) := all_cell (j := 7) HO.out hb6 HP.out (by decide) rfl)
            | (go_at_call 32; (with_reducible refine (CD.out _).mono ?_); rintro e w7 ⟨rfl, hb7⟩; clear CD))
          show Code.wp _ _ _ _ (w7.alloc (.cells (rowV ⟨op, form, frm, kind, mask, mtch, lay⟩) 40))
          have hb8 := (hb6.trans (hb7.mono hb6.size)).alloc (Nat.le_trans hb6.size hb7.size) (.cells (rowV ⟨op, form, frm, kind, mask, mtch, lay⟩) 40)
          have hcb8 := ((HCB.out.call hb5).call hb7).alloc (.cells (rowV ⟨op, form, frm, kind, mask, mtch, lay⟩) 40)
          have hq := Blk.new w7 (rowV ⟨op, form, frm, kind, mask, mtch, lay⟩) 40
          obtain ⟨A, hA⟩ : ∃ A, w7.alloc (.cells (rowV ⟨op, form, frm, kind, mask, mtch, lay⟩) 40) = A := ⟨_, rfl⟩
          obtain ⟨gq, hgq⟩ : ∃ gq, w7.heap.size = gq := ⟨_, rfl⟩
          rw [hA] at hb8 hcb8 hq ⊢
          rw [hgq] at hq ⊢
          clear hA hgq hb5 hb6 hb7 t7 d0 d1 d2 d3 d4 d5 d6 d7
          have t0 : A.cell? ⟨g, k * 8, none⟩ = some (.int .u8 (op : Nat)) := all_cell (j := 0) HO.out hb8 HP.out (by decide) rfl
          have t1 : A.cell? ⟨g, k * 8 + 1, none⟩ = some (.int .u8 (form : Nat)) := all_cell (j := 1) HO.out hb8 HP.out (by decide) rfl
          have t2 : A.cell? ⟨g, k * 8 + 2, none⟩ = some (.int .u8 (frm : Nat)) := all_cell (j := 2) HO.out hb8 HP.out (by decide) rfl
          have t3 : A.cell? ⟨g, k * 8 + 3, none⟩ = some (.int .u8 (kind : Nat)) := all_cell (j := 3) HO.out hb8 HP.out (by decide) rfl
          have t4 : A.cell? ⟨g, k * 8 + 4, none⟩ = some (.int .u32 (mask : Nat)) := all_cell (j := 4) HO.out hb8 HP.out (by decide) rfl
          have t5 : A.cell? ⟨g, k * 8 + 5, none⟩ = some (.int .u32 (mtch : Nat)) := all_cell (j := 5) HO.out hb8 HP.out (by decide) rfl
          have t6 : A.cell? ⟨g, k * 8 + 6, none⟩ = some (.int .u8 (lay : Nat)) := all_cell (j := 6) HO.out hb8 HP.out (by decide) rfl
          have t7 : A.cell? ⟨g, k * 8 + 7, none⟩ = some (.string nm) := all_cell (j := 7) HO.out hb8 HP.out (by decide) rfl
          have l0 : A.cell? ⟨g2, k * 7, none⟩ = some (.int .u8 (op : Nat)) := row_at HCU.out hlt HRW.out hcb8 0 (by decide)
          have l1 : A.cell? ⟨g2, k * 7 + 1, none⟩ = some (.int .u8 (form : Nat)) := row_at HCU.out hlt HRW.out hcb8 1 (by decide)
          have l2 : A.cell? ⟨g2, k * 7 + 2, none⟩ = some (.int .u8 (frm : Nat)) := row_at HCU.out hlt HRW.out hcb8 2 (by decide)
          have l3 : A.cell? ⟨g2, k * 7 + 3, none⟩ = some (.int .u8 (kind : Nat)) := row_at HCU.out hlt HRW.out hcb8 3 (by decide)
          have l4 : A.cell? ⟨g2, k * 7 + 4, none⟩ = some (.int .u32 (mask : Nat)) := row_at HCU.out hlt HRW.out hcb8 4 (by decide)
          have l5 : A.cell? ⟨g2, k * 7 + 5, none⟩ = some (.int .u32 (mtch : Nat)) := row_at HCU.out hlt HRW.out hcb8 5 (by decide)
          have l6 : A.cell? ⟨g2, k * 7 + 6, none⟩ = some (.int .u8 (lay : Nat)) := row_at HCU.out hlt HRW.out hcb8 6 (by decide)
          have q0 := hq.cell 0
          have q1 := hq.cell 1
          have q2 := hq.cell 2
          have q3 := hq.cell 3
          have q4 := hq.cell 4
          have q5 := hq.cell 5
          have q6 := hq.cell 6
          simp only [List.getElem?_toArray, List.getElem?_cons_succ, List.getElem?_cons_zero] at q0 q1 q2 q3 q4 q5 q6
          have HB8 := Lib.hid hb8
          have HCB8 := Lib.hid hcb8
          have HFZ := Lib.hid hcb8.frozen
          clear hb8 hcb8 hq
          go_quiet (fail)
          have f0 := HFZ.out
          go_wp2
          have s0 := ((((((HCB8.out.drewN nq).set (k * 7) (.int .u8 0)).set (k * 7 + 1) (.int .u8 0)).set (k * 7 + 2) (.int .u8 0)).set (k * 7 + 3) (.int .u8 0)).set (k * 7 + 4) (.int .u32 0)).set (k * 7 + 5) (.int .u32 0)
          have s1 := s0.set (k * 7 + 6) (.int .u8 0)
          have hbl : ∀ (X : World) (j : Nat) (v : Value), Below w1.heap.size w1 X → Below w1.heap.size w1 (X.setCell ⟨g2, j, none⟩ v) := fun X j v h => h.setCell (p := ⟨g2, j, none⟩) HG2.out v
          go_roundw
          case rel => exact ⟨k + 1, _, by omega, by go_num, s1, fun j h1 h2 => by rw [← HCU.out j (by omega) h2]; simp only [Array.getElem?_setIfInBounds]; rw [if_neg (by omega), if_neg (by omega), if_neg (by omega), if_neg (by omega), if_neg (by omega), if_neg (by omega), if_neg (by omega)], hbl _ _ _ (hbl _ _ _ (hbl _ _ _ (hbl _ _ _ (hbl _ _ _ (hbl _ _ _ (hbl _ _ _ (below_drewN HB8.out)))))))⟩
          case measure => simp [intOf]; omega
        · obtain rfl : k = 136 := by omega
          go_wp2
          go_roundw
          case rel => exact ⟨n + 1, by omega, by go_num, hb⟩
          case measure => simp [intOf]; omega
    · obtain rfl : n = 2 := by omega
      have E0 : Hid (Below W.heap.size W wr) := Lib.hid (HB.out.trans (hb0.mono HB.out.size))
      clear hb0
      go_wp2_with (first
        | (go_at_call 33; (with_reducible refine (lives24 _).mono ?_); rintro e w9 ⟨rfl, b9⟩))
      go_ret
      exact ⟨rfl, E0.out.trans (b9.mono E0.out.size)⟩
end Go.Proofs.Yteelconabmfnkaa
