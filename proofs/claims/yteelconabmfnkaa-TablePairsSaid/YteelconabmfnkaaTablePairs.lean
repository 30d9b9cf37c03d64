/- The law TablePairs: its walk. -/
import Derived.Test.YteelconabmfnkaaTableOne
import Derived.Test.YteelconabmfnkaaTableRows
import Derived.Test.YteelconabmfnkaaPda
import Derived.Deep.Cut
namespace Go.Proofs.Yteelconabmfnkaa
open Go Go.RowKit
open Go.Maps (Keyed)
set_option maxHeartbeats 16000000
set_option maxRecDepth 100000
set_option linter.unusedVariables false
set_option linter.unusedSimpArgs false
theorem row_bits : ∀ r ∈ ROWS, bits .andNot .u32 (r.mtch : Int) (r.mask : Int) = 0 ∧ bits .and .u32 (r.mask : Int) 127 = 127 ∧ bits .and .u32 (r.mask : Int) 1015808 = 0 ∧ (modB r.lay = true → bits .and .u32 (r.mask : Int) 28672 = 0) ∧ (r.lay ≠ 8 → r.lay ≠ 9 → fitsB r r.mtch = true) := by
  have h : (ROWS.all fun r => decide (bits .andNot .u32 (r.mtch : Int) (r.mask : Int) = 0) && decide (bits .and .u32 (r.mask : Int) 127 = 127) && decide (bits .and .u32 (r.mask : Int) 1015808 = 0) && (!modB r.lay || decide (bits .and .u32 (r.mask : Int) 28672 = 0)) && (r.lay == 8 || r.lay == 9 || fitsB r r.mtch)) = true := by decide +kernel
  intro r hr
  have := List.all_eq_true.1 h r hr
  simp only [Bool.and_eq_true, decide_eq_true_eq, Bool.or_eq_true, Bool.not_eq_true', beq_iff_eq] at this
  obtain ⟨⟨⟨⟨h1, h2⟩, h3⟩, h4⟩, h5⟩ := this
  refine ⟨h1, h2, h3, fun h => h4.resolve_left (by rw [h]; decide), fun a b => ?_⟩
  rcases h5 with (h5 | h5) | h5
  · exact absurd h5 a
  · exact absurd h5 b
  · exact h5
theorem row_asked' : ∀ r ∈ ROWS, ∀ q ∈ ROWS, r.op = q.op → r.form = q.form → r.frm = q.frm → r.kind = q.kind → r = q := by
  have h : (ROWS.all fun r => ROWS.all fun q => !(r.op == q.op && (r.form == q.form && (r.frm == q.frm && r.kind == q.kind))) || decide (r = q)) = true := by decide +kernel
  intro r hr q hq h1 h2 h3 h4
  have := List.all_eq_true.1 (List.all_eq_true.1 h r hr) q hq
  simpa [h1, h2, h3, h4] using this
/-- the counts of names -/
def NPUT (D : DataW Value) (p : R7 × ByteArray) : DataW Value := D.put (.string p.2.data.toList) (.lit (.int .i64 1))
def DN (l : List (R7 × ByteArray)) : DataW Value := l.foldl NPUT (.map [])
abbrev IsN (w : World) (b n : Nat) (l : List (R7 × ByteArray)) : Prop := w.ownsMap Try.prog 9 (plainElem Try.prog 3) b n (DN l)
theorem dn_new (s : ByteArray) : ∀ (l : List (R7 × ByteArray)) (D : DataW Value), (∀ p ∈ l, p.2 ≠ s) → ∀ z, (l.foldl NPUT D).atKey (.string s.data.toList) z = D.atKey (.string s.data.toList) z
  | [], D, _, z => rfl
  | p :: l, D, h, z => by
    rw [List.foldl_cons, dn_new s l _ (fun q hq => h q (by simp [hq])) z]
    unfold NPUT
    refine Maps.atKey_put_other (fun e => h p (by simp) ?_) _ _
    injection e with e
    exact (ByteArray.ext (Array.ext' e)).symm
theorem str_law : Keyed Try.prog 9 := Maps.string_keyed Try.underlying9
theorem str_key (s : ByteArray) (h : s.size ≤ maxLen) : keyOf Try.prog 9 (.string s) = some (.string s.data.toList) := by
  unfold keyOf
  rw [Try.underlying9]
  unfold mapKey
  rw [Try.underlying9]
  simp [h]
theorem names_small : ∀ p ∈ ALLN, p.2.size ≤ 1000 := by
  have h : (ALLN.all fun p => decide (p.2.size ≤ 1000)) = true := by decide +kernel
  intro p hp
  exact of_decide_eq_true (List.all_eq_true.1 h p hp)
theorem dn_look (w : World) (b n k : Nat) (p : R7 × ByteArray) (hp : ALLN[k]? = some p) (h : IsN w b n (ALLN.take k)) : (Instr.lookup 60 (.map (some b)) (.string p.2) false).run Try.prog w = .ok (.int .i64 0) w := by
  have hsz := names_small p (List.mem_of_getElem? hp)
  obtain ⟨c, hrun, hat, _⟩ := h.lookup_int str_law Try.underlying60 Try.underlying3 (by kernel_rfl) (str_key p.2 (by unfold maxLen; omega))
  have hno : ∀ q ∈ ALLN.take k, q.2 ≠ p.2 := fun q hq e => by
    obtain ⟨j, hj, rfl⟩ := List.mem_iff_getElem.1 hq
    rw [List.length_take] at hj
    rw [List.getElem_take] at e
    obtain ⟨hk, hkp⟩ := List.getElem?_eq_some_iff.1 hp
    have e2 := alln_names _ (List.getElem_mem (by omega : j < ALLN.length)) p (List.mem_of_getElem? hp) e
    have e3 : ROWS[j]'(by rw [rows_136]; rw [alln_136] at hk; omega) = ROWS[k]'(by rw [rows_136]; rw [alln_136] at hk; omega) := by
      have h1 : ROWS[j]? = some p.1 := by rw [← alln_rows, List.getElem?_map, List.getElem?_eq_getElem (by omega : j < ALLN.length), e2]; rfl
      have h2 : ROWS[k]? = some p.1 := by rw [← alln_rows, List.getElem?_map, hp]; rfl
      rw [List.getElem?_eq_some_iff] at h1 h2
      exact h1.2.trans h2.2.symm
    exact absurd e3 (List.pairwise_iff_getElem.1 rows_nodup j k _ _ (by omega))
  have := dn_new p.2 (ALLN.take k) (.map []) hno (.lit (.int .i64 0))
  rw [show (ALLN.take k).foldl NPUT (.map []) = DN (ALLN.take k) from rfl, hat] at this
  rw [hrun]
  congr 1
  have e : (DataW.lit (.int .i64 c) : DataW Value) = .lit (.int .i64 0) := this
  injection e with e
  injection e with _ e
  rw [e]
theorem walk_TablePairs (W : World) : Calls Try.prog 10 #[] W fun e w' => e = .returned (.bool true) ∧ Below W.heap.size W w' := by
  have hmm := @run_makeMap Try.prog
  go_enter Try.func10, Try.ntmps10
  go_wp2_with (first
    | (go_at_call 29; (with_reducible refine (rows_c _).mono ?_); rintro e w1 ⟨g, cap, rfl, hO, hB⟩))
  have HO := Lib.hid hO
  have HB := Lib.hid hB
  have HM0 : Hid (IsN (w1.alloc (.map #[] 0)) w1.heap.size 0 (ALLN.take 0)) := Lib.hid (World.ownsMap_made w1 Try.prog 9 _)
  clear hO hB hmm
  go_loopw [3] (fun i wr => ∃ k : Nat, k ≤ 136 ∧ i = .int .i64 k ∧ Below w1.heap.size w1 wr ∧ IsN wr w1.heap.size k (ALLN.take k)) (fun i _ => 136 - (intOf i).toNat)
  case atStart => exact ⟨0, by omega, rfl, (Below.refl _ _).alloc (Nat.le_refl _) _, HM0.out⟩
  case round =>
    obtain ⟨k, hk, rfl, hb, hm⟩ := hrel
    clear HM0
    by_cases hlt : k < 136
    · obtain ⟨p, hp⟩ : ∃ p, ALLN[k]? = some p := ⟨_, List.getElem?_eq_getElem (by rw [alln_136]; exact hlt)⟩
      have hpm := List.mem_of_getElem? hp
      have hna := nameof_mem hpm
      have hsz := names_small p hpm
      have hlk := fun (X : World) (h : IsN X w1.heap.size k (ALLN.take k)) => dn_look X w1.heap.size k k p hp h
      have hstep : DN (ALLN.take (k + 1)) = NPUT (DN (ALLN.take k)) p := by unfold DN; rw [List.take_add_one, hp, List.foldl_append]; rfl
      obtain ⟨⟨op, form, frm, kind, mask, mtch, lay⟩, nm⟩ := p
      have F := row_mask (alln_mem hpm)
      obtain ⟨rb1, rb2, rb3, rb4, rb5⟩ := row_bits _ (alln_mem hpm)
      have hrow : ROWS[k]? = some ⟨op, form, frm, kind, mask, mtch, lay⟩ := by rw [← alln_rows, List.getElem?_map, hp]; rfl
      simp only [] at hna hsz hlk F rb1 rb2 rb3 rb4 rb5
      have CN : Hid (∀ X, Calls Try.prog 31 #[.agg (rowV ⟨op, form, frm, kind, mask, mtch, lay⟩)] X fun e w' => e = .returned (.tuple #[.string nm, .int .i64 0]) ∧ Below X.heap.size X w') := Lib.hid fun X => by
        have := name_c X ⟨op, form, frm, kind, mask, mtch, lay⟩ F.1 F.2
        unfold NameP at this
        rw [hna] at this
        exact this
      have CMD := Lib.hid (fun X => moded_c X lay)
      obtain ⟨m, hmd⟩ : ∃ m, modB lay = m := ⟨_, rfl⟩
      rw [hmd] at CMD rb4
      have CFT := Lib.hid (fun X => fits_c X ⟨op, form, frm, kind, mask, mtch, lay⟩ mtch F.1 F.2 F.2)
      have HP := Lib.hid hp
      have HRW := Lib.hid hrow
      have HST := Lib.hid hstep
      have HLK := Lib.hid hlk
      have HSZ := Lib.hid hsz
      have HRB5 := Lib.hid rb5
      have HMD := Lib.hid hmd
      have HF := Lib.hid F
      have d0 : wr.cell? ⟨g, k * 7, none⟩ = some (.int .u8 (op : Nat)) := rows_cell (j := 0) HO.out hb hrow (by decide) rfl
      have d1 : wr.cell? ⟨g, k * 7 + 1, none⟩ = some (.int .u8 (form : Nat)) := rows_cell (j := 1) HO.out hb hrow (by decide) rfl
      have d2 : wr.cell? ⟨g, k * 7 + 2, none⟩ = some (.int .u8 (frm : Nat)) := rows_cell (j := 2) HO.out hb hrow (by decide) rfl
      have d3 : wr.cell? ⟨g, k * 7 + 3, none⟩ = some (.int .u8 (kind : Nat)) := rows_cell (j := 3) HO.out hb hrow (by decide) rfl
      have d4 : wr.cell? ⟨g, k * 7 + 4, none⟩ = some (.int .u32 (mask : Nat)) := rows_cell (j := 4) HO.out hb hrow (by decide) rfl
      have d5 : wr.cell? ⟨g, k * 7 + 5, none⟩ = some (.int .u32 (mtch : Nat)) := rows_cell (j := 5) HO.out hb hrow (by decide) rfl
      have d6 : wr.cell? ⟨g, k * 7 + 6, none⟩ = some (.int .u8 (lay : Nat)) := rows_cell (j := 6) HO.out hb hrow (by decide) rfl
      have HBL := Lib.hid hb
      have HM := Lib.hid hm
      clear hp hpm hna hsz hlk hstep F hrow hmd rb5 hb hm
      go_upto_region 7 with (first
        | (go_at_call 31; (with_reducible refine (CN.out _).mono ?_); rintro e w2 ⟨rfl, hb2⟩; clear CN))
      have hb3 := HBL.out.trans (hb2.mono HBL.out.size)
      have hm3 : IsN w2 w1.heap.size k (ALLN.take k) := HM.out.kept (grown_of_below hb2 none) (by simp)
      have HB3 := Lib.hid hb3
      have HM3 := Lib.hid hm3
      clear hb2 d0 d1 d2 d3 d4 d5 d6
      have d0 : w2.cell? ⟨g, k * 7, none⟩ = some (.int .u8 (op : Nat)) := rows_cell (j := 0) HO.out hb3 HRW.out (by decide) rfl
      have d1 : w2.cell? ⟨g, k * 7 + 1, none⟩ = some (.int .u8 (form : Nat)) := rows_cell (j := 1) HO.out hb3 HRW.out (by decide) rfl
      have d2 : w2.cell? ⟨g, k * 7 + 2, none⟩ = some (.int .u8 (frm : Nat)) := rows_cell (j := 2) HO.out hb3 HRW.out (by decide) rfl
      have d3 : w2.cell? ⟨g, k * 7 + 3, none⟩ = some (.int .u8 (kind : Nat)) := rows_cell (j := 3) HO.out hb3 HRW.out (by decide) rfl
      have d4 : w2.cell? ⟨g, k * 7 + 4, none⟩ = some (.int .u32 (mask : Nat)) := rows_cell (j := 4) HO.out hb3 HRW.out (by decide) rfl
      have d5 : w2.cell? ⟨g, k * 7 + 5, none⟩ = some (.int .u32 (mtch : Nat)) := rows_cell (j := 5) HO.out hb3 HRW.out (by decide) rfl
      have d6 : w2.cell? ⟨g, k * 7 + 6, none⟩ = some (.int .u8 (lay : Nat)) := rows_cell (j := 6) HO.out hb3 HRW.out (by decide) rfl
      have hlk3 : ∀ q, (Instr.lookup 60 (.map (some w1.heap.size)) (.string nm) false).run Try.prog (w2.drewN q) = .ok (.int .i64 0) (w2.drewN q) := fun q => HLK.out (w2.drewN q) hm3
      have hlk4 := HLK.out w2 hm3
      clear hb3 hm3
      go_cut [79] from 23 to 79 (fun c wx => c = .bool false ∧ ∃ q, wx = w2.drewN q)
      case first =>
        cases m
        · clear rb4
          refine wp_region_sets_lit (fun _ w' => ∃ q, w' = w2.drewN q) (by kernel_rfl) (by kernel_rfl) ⟨1, rfl⟩ ?_
          (repeat (first | (refine sets_quiet (fun w' => ∃ q, w' = w2.drewN q) (fun _ _ h => h) rfl (fun _ _ _ h => h) rfl ?_; intro K hK; go_big_quiet_op; first | go_big_quiet_on | (refine ⟨_, fun _ => rfl, ?_⟩; go_big_quiet_on)) | (refine sets_nil rfl (fun _ _ _ h => h) _ rfl _ rfl ?_; simp only [Act.put, List.setIfInBounds_toArray, List.set_cons_succ, List.set_cons_zero]) | (refine sets_skip rfl (fun _ _ _ h => h) ?_; simp only [Act.put, List.setIfInBounds_toArray, List.set_cons_succ, List.set_cons_zero])))
          refine sets_call (.bool false) rfl 37 [_] _ rfl Try.f37 Try.func37 (by kernel_rfl) (by kernel_rfl) [.int .u8 (lay : Nat)] rfl (fun S X h1 h2 h3 => ?_) ?_
          · refine (CMD.out X).mono ?_
            rintro e X2 ⟨rfl, rfl⟩
            exact ⟨rfl, h3⟩
          simp only [Act.put, List.setIfInBounds_toArray, List.set_cons_succ, List.set_cons_zero]
          (repeat (first | (refine sets_quiet (fun w' => ∃ q, w' = w2.drewN q) (fun _ _ h => h) rfl (fun _ _ _ h => h) rfl ?_; intro K hK; go_big_quiet_op; first | go_big_quiet_on | (refine ⟨_, fun _ => rfl, ?_⟩; go_big_quiet_on)) | (refine sets_nil rfl (fun _ _ _ h => h) _ rfl _ rfl ?_; simp only [Act.put, List.setIfInBounds_toArray, List.set_cons_succ, List.set_cons_zero]) | (refine sets_skip rfl (fun _ _ _ h => h) ?_; simp only [Act.put, List.setIfInBounds_toArray, List.set_cons_succ, List.set_cons_zero])))
          rintro S _ _ ⟨nq, rfl⟩
          go_wp2
          go_meet
          exact ⟨rfl, nq, rfl⟩
        · have rb5 := rb4 rfl
          clear rb4
          refine wp_region_sets_lit (fun _ w' => ∃ q, w' = w2.drewN q) (by kernel_rfl) (by kernel_rfl) ⟨1, rfl⟩ ?_
          (repeat (first | (refine sets_quiet (fun w' => ∃ q, w' = w2.drewN q) (fun _ _ h => h) rfl (fun _ _ _ h => h) rfl ?_; intro K hK; go_big_quiet_op; first | go_big_quiet_on | (refine ⟨_, fun _ => rfl, ?_⟩; go_big_quiet_on)) | (refine sets_nil rfl (fun _ _ _ h => h) _ rfl _ rfl ?_; simp only [Act.put, List.setIfInBounds_toArray, List.set_cons_succ, List.set_cons_zero]) | (refine sets_skip rfl (fun _ _ _ h => h) ?_; simp only [Act.put, List.setIfInBounds_toArray, List.set_cons_succ, List.set_cons_zero])))
          refine sets_call (.bool true) rfl 37 [_] _ rfl Try.f37 Try.func37 (by kernel_rfl) (by kernel_rfl) [.int .u8 (lay : Nat)] rfl (fun S X h1 h2 h3 => ?_) ?_
          · refine (CMD.out X).mono ?_
            rintro e X2 ⟨rfl, rfl⟩
            exact ⟨rfl, h3⟩
          simp only [Act.put, List.setIfInBounds_toArray, List.set_cons_succ, List.set_cons_zero]
          (repeat (first | (refine sets_quiet (fun w' => ∃ q, w' = w2.drewN q) (fun _ _ h => h) rfl (fun _ _ _ h => h) rfl ?_; intro K hK; go_big_quiet_op; first | go_big_quiet_on | (refine ⟨_, fun _ => rfl, ?_⟩; go_big_quiet_on)) | (refine sets_nil rfl (fun _ _ _ h => h) _ rfl _ rfl ?_; simp only [Act.put, List.setIfInBounds_toArray, List.set_cons_succ, List.set_cons_zero]) | (refine sets_skip rfl (fun _ _ _ h => h) ?_; simp only [Act.put, List.setIfInBounds_toArray, List.set_cons_succ, List.set_cons_zero])))
          rintro S _ _ ⟨nq, rfl⟩
          go_wp2
          go_meet
          exact ⟨rfl, nq, rfl⟩
      case rest =>
        obtain ⟨rfl, nq, rfl⟩ := hcut
        have hmq : IsN (w2.drewN nq) w1.heap.size k (ALLN.take k) := HM3.out
        have hlk5 := hlk3 nq
        clear hlk3 hlk4 HLK rb4 CMD rb1 rb2 rb3
        go_upto_region 10 with (first
          | (at_mapUpdate; refine wpList_mapUpdate_own _ rfl _ _ _ 60 rfl 9 3 str_law Try.underlying60 (plainElem Try.prog 3) w1.heap.size k _ rfl hmq (by unfold maxLen; omega) _ _ (.string nm.data.toList) rfl rfl (str_key nm (by have := HSZ.out; unfold maxLen; omega)) (.lit (.int .i64 1)) [] (plainElem_int Try.underlying3 (by decide)) ?_; intro w4 hown4 hgrow4))
        simp only [Act.put]
        have hb4 : Below w1.heap.size w1 w4 := (below_drewN HB3.out).grown hgrow4 (by show w1.heap.size ≤ w2.heap.size; exact HB3.out.size) (fun j hj => by cases hj; exact Nat.le_refl _)
        have hm4 : IsN w4 w1.heap.size (k + 1) (ALLN.take (k + 1)) := by show World.ownsMap _ _ _ _ _ _ _; rw [HST.out]; exact hown4
        have HB4 := Lib.hid hb4
        have HM4 := Lib.hid hm4
        clear hmq hlk5 hown4 hgrow4 hb4 hm4
        clear d0 d1 d2 d3 d4 d5 d6 HB3 HM3 HM HBL
        go_cut [110] from 84 to 110 (fun c wx => c = .bool false ∧ Below w1.heap.size w1 wx ∧ IsN wx w1.heap.size (k + 1) (ALLN.take (k + 1)))
        case first =>
          by_cases hl8 : lay = 8
          · have z8 : ((lay : Int) != 8) = false := by rw [hl8]; rfl
            clear hl8
            refine wp_region_sets_lit (fun S Y => Below w1.heap.size w1 Y ∧ IsN Y w1.heap.size (k + 1) (ALLN.take (k + 1))) (by kernel_rfl) (by kernel_rfl) ⟨HB4.out.drew, HM4.out⟩ ?_
            obtain ⟨U, V, hV, hU⟩ := worlds (fun S Y => Below w1.heap.size w1 Y ∧ IsN Y w1.heap.size (k + 1) (ALLN.take (k + 1)))
            have v0 : ∀ u, (V u).cell? ⟨g, k * 7, none⟩ = some (.int .u8 (op : Nat)) := fun u => by obtain ⟨S, h, _⟩ := hV u; exact rows_cell (j := 0) HO.out h HRW.out (by decide) rfl
            have v1 : ∀ u, (V u).cell? ⟨g, k * 7 + 1, none⟩ = some (.int .u8 (form : Nat)) := fun u => by obtain ⟨S, h, _⟩ := hV u; exact rows_cell (j := 1) HO.out h HRW.out (by decide) rfl
            have v2 : ∀ u, (V u).cell? ⟨g, k * 7 + 2, none⟩ = some (.int .u8 (frm : Nat)) := fun u => by obtain ⟨S, h, _⟩ := hV u; exact rows_cell (j := 2) HO.out h HRW.out (by decide) rfl
            have v3 : ∀ u, (V u).cell? ⟨g, k * 7 + 3, none⟩ = some (.int .u8 (kind : Nat)) := fun u => by obtain ⟨S, h, _⟩ := hV u; exact rows_cell (j := 3) HO.out h HRW.out (by decide) rfl
            have v4 : ∀ u, (V u).cell? ⟨g, k * 7 + 4, none⟩ = some (.int .u32 (mask : Nat)) := fun u => by obtain ⟨S, h, _⟩ := hV u; exact rows_cell (j := 4) HO.out h HRW.out (by decide) rfl
            have v5 : ∀ u, (V u).cell? ⟨g, k * 7 + 5, none⟩ = some (.int .u32 (mtch : Nat)) := fun u => by obtain ⟨S, h, _⟩ := hV u; exact rows_cell (j := 5) HO.out h HRW.out (by decide) rfl
            have v6 : ∀ u, (V u).cell? ⟨g, k * 7 + 6, none⟩ = some (.int .u8 (lay : Nat)) := fun u => by obtain ⟨S, h, _⟩ := hV u; exact rows_cell (j := 6) HO.out h HRW.out (by decide) rfl
            replace hV := Lib.hid hV
            replace hU := Lib.hid hU
            (repeat (first | (refine sets_quiet (fun w' => ∃ u, w' = V u) hU.out rfl (fun _ _ _ h => h) rfl ?_; intro K hK; go_big_quiet_op; first | go_big_quiet_on | (refine ⟨_, fun _ => rfl, ?_⟩; go_big_quiet_on)) | (refine sets_skip rfl (fun _ _ _ h => h) ?_; simp only [Act.put, List.setIfInBounds_toArray, List.set_cons_succ, List.set_cons_zero])))
            rintro S Y _ ⟨hbY, hmY⟩
            go_wp2
            go_meet
            exact ⟨rfl, hbY, hmY⟩
          by_cases hl9 : lay = 9
          · have z8 : ((lay : Int) != 8) = true := by rw [hl9]; rfl
            have z9 : ((lay : Int) != 9) = false := by rw [hl9]; rfl
            clear hl9 hl8
            refine wp_region_sets_lit (fun S Y => Below w1.heap.size w1 Y ∧ IsN Y w1.heap.size (k + 1) (ALLN.take (k + 1))) (by kernel_rfl) (by kernel_rfl) ⟨HB4.out.drew, HM4.out⟩ ?_
            obtain ⟨U, V, hV, hU⟩ := worlds (fun S Y => Below w1.heap.size w1 Y ∧ IsN Y w1.heap.size (k + 1) (ALLN.take (k + 1)))
            have v0 : ∀ u, (V u).cell? ⟨g, k * 7, none⟩ = some (.int .u8 (op : Nat)) := fun u => by obtain ⟨S, h, _⟩ := hV u; exact rows_cell (j := 0) HO.out h HRW.out (by decide) rfl
            have v1 : ∀ u, (V u).cell? ⟨g, k * 7 + 1, none⟩ = some (.int .u8 (form : Nat)) := fun u => by obtain ⟨S, h, _⟩ := hV u; exact rows_cell (j := 1) HO.out h HRW.out (by decide) rfl
            have v2 : ∀ u, (V u).cell? ⟨g, k * 7 + 2, none⟩ = some (.int .u8 (frm : Nat)) := fun u => by obtain ⟨S, h, _⟩ := hV u; exact rows_cell (j := 2) HO.out h HRW.out (by decide) rfl
            have v3 : ∀ u, (V u).cell? ⟨g, k * 7 + 3, none⟩ = some (.int .u8 (kind : Nat)) := fun u => by obtain ⟨S, h, _⟩ := hV u; exact rows_cell (j := 3) HO.out h HRW.out (by decide) rfl
            have v4 : ∀ u, (V u).cell? ⟨g, k * 7 + 4, none⟩ = some (.int .u32 (mask : Nat)) := fun u => by obtain ⟨S, h, _⟩ := hV u; exact rows_cell (j := 4) HO.out h HRW.out (by decide) rfl
            have v5 : ∀ u, (V u).cell? ⟨g, k * 7 + 5, none⟩ = some (.int .u32 (mtch : Nat)) := fun u => by obtain ⟨S, h, _⟩ := hV u; exact rows_cell (j := 5) HO.out h HRW.out (by decide) rfl
            have v6 : ∀ u, (V u).cell? ⟨g, k * 7 + 6, none⟩ = some (.int .u8 (lay : Nat)) := fun u => by obtain ⟨S, h, _⟩ := hV u; exact rows_cell (j := 6) HO.out h HRW.out (by decide) rfl
            replace hV := Lib.hid hV
            replace hU := Lib.hid hU
            (repeat (first | (refine sets_quiet (fun w' => ∃ u, w' = V u) hU.out rfl (fun _ _ _ h => h) rfl ?_; intro K hK; go_big_quiet_op; first | go_big_quiet_on | (refine ⟨_, fun _ => rfl, ?_⟩; go_big_quiet_on)) | (refine sets_skip rfl (fun _ _ _ h => h) ?_; simp only [Act.put, List.setIfInBounds_toArray, List.set_cons_succ, List.set_cons_zero])))
            rintro S Y _ ⟨hbY, hmY⟩
            go_wp2
            go_meet
            exact ⟨rfl, hbY, hmY⟩
          have z8 : ((lay : Int) != 8) = true := by rw [bne_iff_ne]; omega
          have z9 : ((lay : Int) != 9) = true := by rw [bne_iff_ne]; omega
          have hft := HRB5.out hl8 hl9
          rw [hft] at CFT
          clear hft hl8 hl9
          refine wp_region_sets_lit (fun S Y => Below w1.heap.size w1 Y ∧ IsN Y w1.heap.size (k + 1) (ALLN.take (k + 1))) (by kernel_rfl) (by kernel_rfl) ⟨HB4.out.drew, HM4.out⟩ ?_
          obtain ⟨U, V, hV, hU⟩ := worlds (fun S Y => Below w1.heap.size w1 Y ∧ IsN Y w1.heap.size (k + 1) (ALLN.take (k + 1)))
          have v0 : ∀ u, (V u).cell? ⟨g, k * 7, none⟩ = some (.int .u8 (op : Nat)) := fun u => by obtain ⟨S, h, _⟩ := hV u; exact rows_cell (j := 0) HO.out h HRW.out (by decide) rfl
          have v1 : ∀ u, (V u).cell? ⟨g, k * 7 + 1, none⟩ = some (.int .u8 (form : Nat)) := fun u => by obtain ⟨S, h, _⟩ := hV u; exact rows_cell (j := 1) HO.out h HRW.out (by decide) rfl
          have v2 : ∀ u, (V u).cell? ⟨g, k * 7 + 2, none⟩ = some (.int .u8 (frm : Nat)) := fun u => by obtain ⟨S, h, _⟩ := hV u; exact rows_cell (j := 2) HO.out h HRW.out (by decide) rfl
          have v3 : ∀ u, (V u).cell? ⟨g, k * 7 + 3, none⟩ = some (.int .u8 (kind : Nat)) := fun u => by obtain ⟨S, h, _⟩ := hV u; exact rows_cell (j := 3) HO.out h HRW.out (by decide) rfl
          have v4 : ∀ u, (V u).cell? ⟨g, k * 7 + 4, none⟩ = some (.int .u32 (mask : Nat)) := fun u => by obtain ⟨S, h, _⟩ := hV u; exact rows_cell (j := 4) HO.out h HRW.out (by decide) rfl
          have v5 : ∀ u, (V u).cell? ⟨g, k * 7 + 5, none⟩ = some (.int .u32 (mtch : Nat)) := fun u => by obtain ⟨S, h, _⟩ := hV u; exact rows_cell (j := 5) HO.out h HRW.out (by decide) rfl
          have v6 : ∀ u, (V u).cell? ⟨g, k * 7 + 6, none⟩ = some (.int .u8 (lay : Nat)) := fun u => by obtain ⟨S, h, _⟩ := hV u; exact rows_cell (j := 6) HO.out h HRW.out (by decide) rfl
          replace hV := Lib.hid hV
          replace hU := Lib.hid hU
          (repeat (first | (refine sets_quiet (fun w' => ∃ u, w' = V u) hU.out rfl (fun _ _ _ h => h) rfl ?_; intro K hK; go_big_quiet_op; first | go_big_quiet_on | (refine ⟨_, fun _ => rfl, ?_⟩; go_big_quiet_on)) | (refine sets_skip rfl (fun _ _ _ h => h) ?_; simp only [Act.put, List.setIfInBounds_toArray, List.set_cons_succ, List.set_cons_zero])))
          refine sets_call (.bool true) rfl 35 [_, _] _ rfl Try.f35 Try.func35 (by kernel_rfl) (by kernel_rfl) [.agg (rowV ⟨op, form, frm, kind, mask, mtch, lay⟩), .int .u32 (mtch : Nat)] rfl (fun S X h1 h2 h3 => ?_) ?_
          · refine (CFT.out X).mono ?_
            rintro e X2 ⟨rfl, hbx⟩
            exact ⟨rfl, h3.1.trans (hbx.mono h3.1.size), h3.2.kept (grown_of_below hbx none) (by simp)⟩
          simp only [Act.put, List.setIfInBounds_toArray, List.set_cons_succ, List.set_cons_zero]
          (repeat (first | (refine sets_quiet (fun w' => ∃ u, w' = V u) hU.out rfl (fun _ _ _ h => h) rfl ?_; intro K hK; go_big_quiet_op; first | go_big_quiet_on | (refine ⟨_, fun _ => rfl, ?_⟩; go_big_quiet_on)) | (refine sets_skip rfl (fun _ _ _ h => h) ?_; simp only [Act.put, List.setIfInBounds_toArray, List.set_cons_succ, List.set_cons_zero])))
          rintro S Y _ ⟨hbY, hmY⟩
          go_wp2
          go_meet
          exact ⟨rfl, hbY, hmY⟩
        case rest =>
          obtain ⟨rfl, hbY, hmY⟩ := hcut
          have HBY := Lib.hid hbY
          have HMY := Lib.hid hmY
          clear hbY hmY HB4 HM4 CFT
          go_wp2
          go_loopw [6] (fun j wr => ∃ n : Nat, n ≤ k ∧ j = .int .i64 n ∧ Below w1.heap.size w1 wr ∧ IsN wr w1.heap.size (k + 1) (ALLN.take (k + 1))) (fun j _ => k - (intOf j).toNat)
          case atStart => exact ⟨0, by omega, rfl, HBY.out, HMY.out⟩
          case round =>
            obtain ⟨n, hn, rfl, hb, hm⟩ := hrel
            clear HBY HMY
            by_cases hltn : n < k
            · obtain ⟨q, hq⟩ : ∃ q, ROWS[n]? = some q := ⟨_, List.getElem?_eq_getElem (by rw [rows_136]; omega)⟩
              have hqm := List.mem_of_getElem? hq
              have hrm := List.mem_of_getElem? HRW.out
              have hne : q ≠ ⟨op, form, frm, kind, mask, mtch, lay⟩ := fun e => by
                have h1 := List.getElem?_eq_some_iff.1 hq
                have h2 := List.getElem?_eq_some_iff.1 HRW.out
                obtain ⟨a1, a2⟩ := h1
                obtain ⟨a3, a4⟩ := h2
                exact absurd (a2.trans (e.trans a4.symm)) (List.pairwise_iff_getElem.1 rows_nodup n k a1 a3 (by omega))
              have hap : ¬ ((mtch ^^^ q.mtch) &&& mask) &&& q.mask = 0 := fun e => hne (rows_apart' ⟨op, form, frm, kind, mask, mtch, lay⟩ hrm q hqm e).symm
              have hask : ¬ (op = q.op ∧ form = q.form ∧ frm = q.frm ∧ kind = q.kind) := fun ⟨a, b, c, d⟩ => hne (row_asked' ⟨op, form, frm, kind, mask, mtch, lay⟩ hrm q hqm a b c d).symm
              have F2 := row_mask hqm
              obtain ⟨op2, form2, frm2, kind2, mask2, mtch2, lay2⟩ := q
              simp only [] at hap hask F2
              have d0 : wr.cell? ⟨g, k * 7, none⟩ = some (.int .u8 (op : Nat)) := rows_cell (j := 0) HO.out hb HRW.out (by decide) rfl
              have d1 : wr.cell? ⟨g, k * 7 + 1, none⟩ = some (.int .u8 (form : Nat)) := rows_cell (j := 1) HO.out hb HRW.out (by decide) rfl
              have d2 : wr.cell? ⟨g, k * 7 + 2, none⟩ = some (.int .u8 (frm : Nat)) := rows_cell (j := 2) HO.out hb HRW.out (by decide) rfl
              have d3 : wr.cell? ⟨g, k * 7 + 3, none⟩ = some (.int .u8 (kind : Nat)) := rows_cell (j := 3) HO.out hb HRW.out (by decide) rfl
              have d4 : wr.cell? ⟨g, k * 7 + 4, none⟩ = some (.int .u32 (mask : Nat)) := rows_cell (j := 4) HO.out hb HRW.out (by decide) rfl
              have d5 : wr.cell? ⟨g, k * 7 + 5, none⟩ = some (.int .u32 (mtch : Nat)) := rows_cell (j := 5) HO.out hb HRW.out (by decide) rfl
              have d6 : wr.cell? ⟨g, k * 7 + 6, none⟩ = some (.int .u8 (lay : Nat)) := rows_cell (j := 6) HO.out hb HRW.out (by decide) rfl
              have e0 : wr.cell? ⟨g, n * 7, none⟩ = some (.int .u8 (op2 : Nat)) := rows_cell (j := 0) HO.out hb hq (by decide) rfl
              have e1 : wr.cell? ⟨g, n * 7 + 1, none⟩ = some (.int .u8 (form2 : Nat)) := rows_cell (j := 1) HO.out hb hq (by decide) rfl
              have e2 : wr.cell? ⟨g, n * 7 + 2, none⟩ = some (.int .u8 (frm2 : Nat)) := rows_cell (j := 2) HO.out hb hq (by decide) rfl
              have e3 : wr.cell? ⟨g, n * 7 + 3, none⟩ = some (.int .u8 (kind2 : Nat)) := rows_cell (j := 3) HO.out hb hq (by decide) rfl
              have e4 : wr.cell? ⟨g, n * 7 + 4, none⟩ = some (.int .u32 (mask2 : Nat)) := rows_cell (j := 4) HO.out hb hq (by decide) rfl
              have e5 : wr.cell? ⟨g, n * 7 + 5, none⟩ = some (.int .u32 (mtch2 : Nat)) := rows_cell (j := 5) HO.out hb hq (by decide) rfl
              have e6 : wr.cell? ⟨g, n * 7 + 6, none⟩ = some (.int .u8 (lay2 : Nat)) := rows_cell (j := 6) HO.out hb hq (by decide) rfl
              have hx1 := xor32 mtch mtch2 HF.out.2 F2.2
              obtain ⟨x1, hx1'⟩ : ∃ x, mtch ^^^ mtch2 = x := ⟨_, rfl⟩
              have x1lt : x1 < 4294967296 := by rw [← hx1']; exact Nat.xor_lt_two_pow (n := 32) HF.out.2 F2.2
              rw [hx1'] at hx1 hap
              have hx2 := and32 x1 mask x1lt HF.out.1
              obtain ⟨x2, hx2'⟩ : ∃ x, x1 &&& mask = x := ⟨_, rfl⟩
              have x2lt : x2 < 4294967296 := by rw [← hx2']; exact Nat.lt_of_le_of_lt Nat.and_le_left x1lt
              rw [hx2'] at hx2 hap
              have hx3 := and32 x2 mask2 x2lt F2.1
              obtain ⟨x3, hx3'⟩ : ∃ x, x2 &&& mask2 = x := ⟨_, rfl⟩
              rw [hx3'] at hx3 hap
              have hz : ((x3 : Int) == 0) = false := by rw [beq_eq_false_iff_ne]; omega
              have y1 := beq_cast op op2
              have y2 := beq_cast form form2
              have y3 := beq_cast frm frm2
              have y4 := beq_cast kind kind2
              have hbs : ¬ ((op == op2) = true ∧ (form == form2) = true ∧ (frm == frm2) = true ∧ (kind == kind2) = true) := by simpa using hask
              have HBL2 := Lib.hid hb
              have HML2 := Lib.hid hm
              clear hq hqm hrm hne hap hask F2 hx1' hx2' hx3' x1lt x2lt hb hm
              generalize (op == op2) = b1 at *
              generalize (form == form2) = b2 at *
              generalize (frm == frm2) = b3 at *
              generalize (kind == kind2) = b4 at *
              rcases (by cases b1 <;> cases b2 <;> cases b3 <;> cases b4 <;> simp at hbs ⊢ : b1 = false ∨ (b1 = true ∧ b2 = false) ∨ (b1 = true ∧ b2 = true ∧ b3 = false) ∨ (b1 = true ∧ b2 = true ∧ b3 = true ∧ b4 = false)) with rfl | ⟨rfl, rfl⟩ | ⟨rfl, rfl, rfl⟩ | ⟨rfl, rfl, rfl, rfl⟩
              all_goals
                clear hbs
                go_wp2
                go_quiet (fail)
                go_wp2
                go_quiet (fail)
                go_wp2
                go_roundw
                case rel => exact ⟨n + 1, by omega, by go_num, (by first | exact below_drewN HBL2.out | exact below_drewN (below_drewN HBL2.out)), HML2.out⟩
                case measure => simp [intOf]; omega
            · obtain rfl : n = k := by omega
              go_wp2
              go_roundw
              case rel => exact ⟨n + 1, by omega, by go_num, hb, hm⟩
              case measure => simp [intOf]; omega
    · obtain rfl : k = 136 := by omega
      have E0 : Hid (Below W.heap.size W wr) := Lib.hid (HB.out.trans (hb.mono HB.out.size))
      clear hb hm
      go_wp2_with (first
        | (go_at_call 33; (with_reducible refine (lives24 _).mono ?_); rintro e w9 ⟨rfl, b9⟩))
      go_ret
      exact ⟨rfl, E0.out.trans (b9.mono E0.out.size)⟩
end Go.Proofs.Yteelconabmfnkaa
