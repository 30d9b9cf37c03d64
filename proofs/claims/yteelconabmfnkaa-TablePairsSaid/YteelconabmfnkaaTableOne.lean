/- The law TableOne: its walk. -/
import Derived.Test.YteelconabmfnkaaWf
namespace Go.Proofs.Yteelconabmfnkaa
open Go Go.RowKit
set_option maxHeartbeats 4000000
set_option maxRecDepth 100000
set_option linter.unusedVariables false
set_option linter.unusedSimpArgs false
/-- the cells of the row k of Rows' slice, at any later world -/
theorem rows_cell {w1 wr : World} {B g cap k j : Nat} {r : R7} {v : Value} (h : OwnR B w1 (.slice (some ⟨g, 0, none⟩) 136 cap) ROWS) (hb : Below w1.heap.size w1 wr) (hp : ROWS[k]? = some r) (hj : j < 7) (hv : (rowV r)[j]? = some v) : wr.cell? ⟨g, k * 7 + j, none⟩ = some v := by
  have h1 := (own_cell h).2.2 (k * 7 + j) v (by rw [rws_get ROWS k j r hp hj]; exact hv)
  exact (hb.cell (World.block_lt_of_cell? w1 _ h1)).trans h1
/-- two rows have a bit that both ask and answer differently -/
theorem rows_apart' : ∀ r ∈ ROWS, ∀ q ∈ ROWS, ((r.mtch ^^^ q.mtch) &&& r.mask) &&& q.mask = 0 → r = q := by
  have h : (ROWS.all fun r => ROWS.all fun q => !((((r.mtch ^^^ q.mtch) &&& r.mask) &&& q.mask) == 0) || decide (r = q)) = true := by decide +kernel
  intro r hr q hq h1
  have := List.all_eq_true.1 (List.all_eq_true.1 h r hr) q hq
  simpa [h1] using this
theorem both_zero' {w a b k l : Nat} (h1 : (w ^^^ a) &&& k = 0) (h2 : (w ^^^ b) &&& l = 0) : ((a ^^^ b) &&& k) &&& l = 0 := by
  apply Nat.eq_of_testBit_eq
  intro i
  have e1 := congrArg (·.testBit i) h1
  have e2 := congrArg (·.testBit i) h2
  simp only [Nat.testBit_and, Nat.testBit_xor, Nat.zero_testBit] at e1 e2 ⊢
  generalize w.testBit i = p1 at e1 e2 ⊢
  generalize a.testBit i = p2 at e1 e2 ⊢
  generalize b.testBit i = p3 at e1 e2 ⊢
  generalize k.testBit i = p4 at e1 e2 ⊢
  generalize l.testBit i = p5 at e1 e2 ⊢
  revert p1 p2 p3 p4 p5; decide
theorem fits_and' {r : R7} {w : Nat} (h : fitsB r w = true) : (w ^^^ r.mtch) &&& r.mask = 0 := by
  unfold fitsB at h
  simp only [Bool.and_eq_true, beq_iff_eq] at h
  exact h.1
theorem fits_one' {r q : R7} {w : Nat} (hr : r ∈ ROWS) (hq : q ∈ ROWS) (h1 : fitsB r w = true) (h2 : fitsB q w = true) : r = q :=
  rows_apart' r hr q hq (both_zero' (fits_and' h1) (fits_and' h2))
theorem rows_nodup : ROWS.Nodup := by decide +kernel
/-- the word's row among the first ones -/
def PF (w k : Nat) : Option R7 := (ROWS.take k).find? fun r => fitsB r w
theorem pf_step {w k : Nat} {r : R7} (hr : ROWS[k]? = some r) (hw : w < 4294967296) : PF w (k + 1) = if fitsB r w then some r else PF w k := by
  unfold PF
  rw [List.take_add_one, hr, List.find?_append]
  cases hf : fitsB r w with
  | false => simp [hf]
  | true =>
    have hn : (ROWS.take k).find? (fun r => fitsB r w) = none := by
      rw [List.find?_eq_none]
      intro q hq hqf
      obtain ⟨j, hj, rfl⟩ := List.mem_iff_getElem.1 hq
      rw [List.length_take] at hj
      rw [List.getElem_take] at hqf
      obtain ⟨hk, hkr⟩ := List.getElem?_eq_some_iff.1 hr
      have e := fits_one' (List.getElem_mem (by omega : j < ROWS.length)) (List.mem_of_getElem? hr) hqf hf
      rw [← hkr] at e
      exact absurd e (List.pairwise_iff_getElem.1 rows_nodup j k (by omega) hk (by omega))
    rw [hn]
    simp [hf]
theorem pf_all (w : Nat) : PF w 136 = FIND w := by unfold PF FIND; rw [List.take_of_length_le (by rw [rows_136]; exact Nat.le_refl _)]
theorem walk_TableOne (w : Nat) (W : World) (hw : w < 4294967296) : Calls Try.prog 9 #[.int .u32 w] W fun e w' => e = .returned (.bool true) ∧ Below W.heap.size W w' := by
  have CF := Lib.hid (fun X => find_c X w hw)
  have HW := Lib.hid hw
  clear hw
  go_enter Try.func9, Try.ntmps9
  go_wp2_with (first
    | (go_at_call 29; (with_reducible refine (rows_c _).mono ?_); rintro e w1 ⟨g, cap, rfl, hO, hB⟩))
  have HO := Lib.hid hO
  have HB := Lib.hid hB
  have K0 := Lib.hid (Blk.new w1 (rowV zeroR) 40)
  clear hO hB
  go_loopw [4, 6] (fun n i wr => ∃ k : Nat, k ≤ 136 ∧ i = .int .i64 k ∧ n = .int .i64 ((PF w k).isSome.toNat : Nat) ∧ Blk wr w1.heap.size (rowV ((PF w k).getD zeroR)) 40 ∧ Below w1.heap.size w1 wr) (fun n i _ => 136 - (intOf i).toNat)
  case atStart => exact ⟨0, by omega, rfl, rfl, K0.out, (Below.refl _ _).alloc (Nat.le_refl _) _⟩
  case round =>
    obtain ⟨k, hk, rfl, rfl, hone, hb⟩ := hrel
    clear K0
    by_cases hlt : k < 136
    · obtain ⟨r, hr⟩ : ∃ r, ROWS[k]? = some r := ⟨_, List.getElem?_eq_getElem (by rw [rows_136]; exact hlt)⟩
      have d0 : wr.cell? ⟨g, k * 7, none⟩ = some (.int .u8 (r.op : Nat)) := rows_cell (j := 0) HO.out hb hr (by decide) rfl
      have d1 : wr.cell? ⟨g, k * 7 + 1, none⟩ = some (.int .u8 (r.form : Nat)) := rows_cell (j := 1) HO.out hb hr (by decide) rfl
      have d2 : wr.cell? ⟨g, k * 7 + 2, none⟩ = some (.int .u8 (r.frm : Nat)) := rows_cell (j := 2) HO.out hb hr (by decide) rfl
      have d3 : wr.cell? ⟨g, k * 7 + 3, none⟩ = some (.int .u8 (r.kind : Nat)) := rows_cell (j := 3) HO.out hb hr (by decide) rfl
      have d4 : wr.cell? ⟨g, k * 7 + 4, none⟩ = some (.int .u32 (r.mask : Nat)) := rows_cell (j := 4) HO.out hb hr (by decide) rfl
      have d5 : wr.cell? ⟨g, k * 7 + 5, none⟩ = some (.int .u32 (r.mtch : Nat)) := rows_cell (j := 5) HO.out hb hr (by decide) rfl
      have d6 : wr.cell? ⟨g, k * 7 + 6, none⟩ = some (.int .u8 (r.lay : Nat)) := rows_cell (j := 6) HO.out hb hr (by decide) rfl
      have F := row_mask (List.mem_of_getElem? hr)
      have C1 := Lib.hid (fun X => fits_c X r w F.1 F.2 HW.out)
      have hst := pf_step hr HW.out
      obtain ⟨c, hc⟩ : ∃ c, (PF w k).isSome.toNat = c := ⟨_, rfl⟩
      obtain ⟨q, hq⟩ : ∃ q, (PF w k).getD zeroR = q := ⟨_, rfl⟩
      rw [hq] at hone
      rw [hc]
      have HR := Lib.hid hr
      have HON := Lib.hid hone
      have HBL := Lib.hid hb
      cases hf : fitsB r w
      · rw [hf] at C1 hst
        have HST : Hid (PF w (k + 1) = PF w k) := Lib.hid hst
        have HC := Lib.hid hc
        have HQ := Lib.hid hq
        clear hr F hf hst hc hq hone hb
        go_wp2_with (first
          | (go_at_call 35; (with_reducible refine (C1.out _).mono ?_); rintro e w2 ⟨rfl, hb2⟩))
        go_roundw
        case rel => exact ⟨k + 1, by omega, by go_num, by rw [HST.out, HC.out], by rw [HST.out, HQ.out]; exact HON.out.call hb2, HBL.out.trans (hb2.mono HBL.out.size)⟩
        case measure => simp [intOf]; omega
      · rw [hf] at C1 hst
        have HST : Hid (PF w (k + 1) = some r) := Lib.hid hst
        have hc0 : c = 0 := by
          have hn : PF w k = none := by
            cases hp : PF w k with
            | none => rfl
            | some q2 =>
              unfold PF at hp
              have hm := List.mem_of_find?_eq_some hp
              obtain ⟨j, hj, rfl⟩ := List.mem_iff_getElem.1 hm
              rw [List.length_take] at hj
              have hqf := List.find?_some hp
              rw [List.getElem_take] at hqf
              obtain ⟨hk2, hkr⟩ := List.getElem?_eq_some_iff.1 hr
              have e := fits_one' (List.getElem_mem (by omega : j < ROWS.length)) (List.mem_of_getElem? hr) hqf hf
              rw [← hkr] at e
              exact absurd e (List.pairwise_iff_getElem.1 rows_nodup j k (by omega) hk2 (by omega))
          rw [← hc, hn]; rfl
        subst hc0
        clear hr F hf hst hc hq hone hb
        go_wp2_with (first
          | (go_at_call 35; (with_reducible refine (C1.out _).mono ?_); rintro e w2 ⟨rfl, hb2⟩; have hb3 := HBL.out.trans (hb2.mono HBL.out.size); have kz := HON.out.call hb2; have t0 : w2.cell? ⟨g, k * 7, none⟩ = some (.int .u8 (r.op : Nat)) := rows_cell (j := 0) HO.out hb3 HR.out (by decide) rfl; have t1 : w2.cell? ⟨g, k * 7 + 1, none⟩ = some (.int .u8 (r.form : Nat)) := rows_cell (j := 1) HO.out hb3 HR.out (by decide) rfl; have t2 : w2.cell? ⟨g, k * 7 + 2, none⟩ = some (.int .u8 (r.frm : Nat)) := rows_cell (j := 2) HO.out hb3 HR.out (by decide) rfl; have t3 : w2.cell? ⟨g, k * 7 + 3, none⟩ = some (.int .u8 (r.kind : Nat)) := rows_cell (j := 3) HO.out hb3 HR.out (by decide) rfl; have t4 : w2.cell? ⟨g, k * 7 + 4, none⟩ = some (.int .u32 (r.mask : Nat)) := rows_cell (j := 4) HO.out hb3 HR.out (by decide) rfl; have t5 : w2.cell? ⟨g, k * 7 + 5, none⟩ = some (.int .u32 (r.mtch : Nat)) := rows_cell (j := 5) HO.out hb3 HR.out (by decide) rfl; have t6 : w2.cell? ⟨g, k * 7 + 6, none⟩ = some (.int .u8 (r.lay : Nat)) := rows_cell (j := 6) HO.out hb3 HR.out (by decide) rfl)
          | (refine wpList_store_blk rfl _ _ _ rfl _ _ rfl rfl _ _ kz (by kernel_rfl) rfl (by simp [Value.oneCell']) ?_))
        go_roundw
        case rel => exact ⟨k + 1, by omega, by go_num, by rw [HST.out]; rfl, by rw [HST.out]; exact kz.row _, below_setRow hb3 (Nat.le_refl _) _⟩
        case measure => simp [intOf]; omega
    · obtain rfl : k = 136 := by omega
      rw [pf_all] at hone ⊢
      unfold FindP at CF
      have E0 : Hid (Below W.heap.size W wr) := Lib.hid (HB.out.trans (hb.mono HB.out.size))
      clear hb
      have HON := Lib.hid hone
      clear hone
      cases hF : FIND w with
      | none =>
        rw [hF] at CF HON
        have heq : ∀ X, (binOp .eql 40 (.agg (rowV zeroR)) (.agg (rowV zeroR))).run Try.prog X = .ok (.bool true) X := fun X => by rw [eq_row, decide_eq_true rfl]
        obtain ⟨z, hz⟩ : ∃ z, zeroR = z := ⟨_, rfl⟩
        simp only [Option.getD_none, Option.isSome_none] at CF HON
        rw [hz] at CF HON heq
        clear hF hz
        obtain ⟨op, form, frm, kind, mask, mtch, lay⟩ := z
        go_wp2_with (first
          | (go_at_call 34; (with_reducible refine (CF.out _).mono ?_); rintro e w3 ⟨rfl, b3⟩; clear CF; have k3 := (HON.out.call b3).alloc (.cells (rowV ⟨op, form, frm, kind, mask, mtch, lay⟩) 40); have q3 := Blk.new w3 (rowV ⟨op, form, frm, kind, mask, mtch, lay⟩) 40)
          | (refine wpList_load_blk_on rfl _ _ rfl _ rfl _ _ _ q3 Try.underlying40 rfl (by kernel_rfl) ?_)
          | (refine wpList_load_blk_on rfl _ _ rfl _ rfl _ _ _ k3 Try.underlying40 rfl (by kernel_rfl) ?_)
          | (go_at_call 33; (with_reducible refine (lives24 _).mono ?_); rintro e w7 ⟨rfl, b7⟩))
        go_ret
        have d3 := (E0.out.trans (b3.mono E0.out.size)).alloc (Nat.le_trans E0.out.size b3.size) (.cells (rowV ⟨op, form, frm, kind, mask, mtch, lay⟩) 40)
        exact ⟨rfl, d3.trans (b7.mono d3.size)⟩
      | some z =>
        rw [hF] at CF HON
        have heq : ∀ X, (binOp .eql 40 (.agg (rowV z)) (.agg (rowV z))).run Try.prog X = .ok (.bool true) X := fun X => by rw [eq_row, decide_eq_true rfl]
        simp only [Option.getD_some, Option.isSome_some] at CF HON
        clear hF
        obtain ⟨op, form, frm, kind, mask, mtch, lay⟩ := z
        go_wp2_with (first
          | (go_at_call 34; (with_reducible refine (CF.out _).mono ?_); rintro e w3 ⟨rfl, b3⟩; clear CF; have k3 := (HON.out.call b3).alloc (.cells (rowV ⟨op, form, frm, kind, mask, mtch, lay⟩) 40); have q3 := Blk.new w3 (rowV ⟨op, form, frm, kind, mask, mtch, lay⟩) 40)
          | (refine wpList_load_blk_on rfl _ _ rfl _ rfl _ _ _ q3 Try.underlying40 rfl (by kernel_rfl) ?_)
          | (refine wpList_load_blk_on rfl _ _ rfl _ rfl _ _ _ k3 Try.underlying40 rfl (by kernel_rfl) ?_)
          | (go_at_call 33; (with_reducible refine (lives24 _).mono ?_); rintro e w7 ⟨rfl, b7⟩))
        go_ret
        have d3 := (E0.out.trans (b3.mono E0.out.size)).alloc (Nat.le_trans E0.out.size b3.size) (.cells (rowV ⟨op, form, frm, kind, mask, mtch, lay⟩) 40)
        exact ⟨rfl, d3.trans (b7.mono d3.size)⟩
end Go.Proofs.Yteelconabmfnkaa
