/- The law DecodeLists: its walk. -/
import Derived.Test.YteelconabmfnkaaWg
import Derived.Test.YteelconabmfnkaaLb
import Derived.Test.YteelconabmfnkaaLa

import Derived.Test.YteelconabmfnkaaVl
import Derived.Test.YteelconabmfnkaaRj
namespace Go.Proofs.Yteelconabmfnkaa
open Go Go.RowKit Go.Shelf
set_option maxHeartbeats 16000000
set_option maxRecDepth 100000
set_option linter.unusedVariables false
set_option linter.unusedSimpArgs false
theorem setw_run {P : Program} {ops : Array Oper} {I : (Nat → Bool) → World → Prop} {Q : Act → Prop} {k : Nat} {o : Oper} {rest : List Oper} {a : Act} (v : Value) (hw : Region.wanted o (yielded ops a.tmps) = true) (hI : ∀ S w, S k = false → I S w → I (ins S k) w)
    (hr : ∀ w, (execOp a.eval o).run P w = .ok (.value v) w) (h : wpSets P ops I Q (k + 1) rest (a.put o.dst v)) : wpSets P ops I Q k (o :: rest) a := by
  refine ⟨v, .inl ⟨hw, fun S w hS _ _ hIw => ?_⟩, h⟩
  unfold opTo
  rw [hr w]
  exact ⟨rfl, hI S w hS hIw⟩
theorem own_room {w : World} {base : Nat} {e : TypeId} {size : Nat} {v : Value} {n : Nat} {xs : List Value} (h : w.ownsRow base e size v (n + 1) xs) : ∃ (g cap : Nat), v = .slice (some ⟨g, 0, none⟩) (n + 1) cap ∧ n + 1 ≤ cap ∧ cap ≤ maxLen := by
  rcases h.2 with ⟨_, h0⟩ | ⟨g, cap, cur, rfl, h2, h3, h4, h5, _⟩
  · omega
  · exact ⟨g, cap, rfl, h4, h5⟩
theorem own_len {w : World} {base : Nat} {e : TypeId} {size : Nat} {v : Value} {n : Nat} {xs : List Value} (h : w.ownsRow base e size v n xs) : ∃ (ao : Option Addr) (c : Nat), v = .slice ao n c ∧ (0 < n → ∃ g, ao = some ⟨g, 0, none⟩) := by
  rcases h.2 with ⟨rfl, h0⟩ | ⟨g, cap, cur, rfl, _⟩
  · exact ⟨none, 0, by rw [h0], fun h => by omega⟩
  · exact ⟨_, _, rfl, fun _ => ⟨g, rfl⟩⟩
theorem grown_none {w w1 : World} (h : w.grownBy w1 none) : Below w.heap.size w w1 := ⟨h.os, h.tape, h.output, h.size, fun k hk => h.block k hk (by simp)⟩
theorem lists_big (w : World) (ao : Option Addr) (cap n : Nat) (hn : 2000 < n) : Calls Try.prog 16 #[.slice ao n cap] w fun e w' => e = .returned (.bool true) ∧ Below w.heap.size w w' := by
  have dn : decide ((2000 : Int) < (n : Int)) = true := decide_eq_true (by omega)
  have dn2 : decide (2000 < n) = true := decide_eq_true hn
  go_enter Try.func16, Try.ntmps16
  go_wp2_with (first
    | (go_at_call 40; (with_reducible refine (lives25 _).mono ?_); rintro e w5 ⟨rfl, b5⟩))
  go_ret
  exact ⟨rfl, b5⟩
theorem dlist_c (X : World) (ao : Option Addr) (cap : Nat) (l : List Nat) (hl : ∀ x ∈ l, x < 4294967296) (hlen : l.length ≤ 2000) (hr : Rw X ao l) : Calls Try.prog 51 #[.slice ao l.length cap] X fun e w' => Below X.heap.size X w' ∧
    ∃ (v : Value) (k : Nat) (c : Int), e = .returned (.tuple #[v, .int .i64 k, .int .i64 c]) ∧ ((k = l.length ∧ c = 0 ∧ OwnI X.heap.size w' v (l.map DG) ∧ ∀ j, j < l.length → (DEC (l[j]?.getD 0)).isSome = true) ∨
      (v = .slice none 0 0 ∧ c = 250 ∧ k < l.length ∧ (∀ j, j < k → (DEC (l[j]?.getD 0)).isSome = true) ∧ (DEC (l[k]?.getD 0)).isSome = false)) := by
  refine (dall_c X ao cap l hl hlen hr).mono ?_
  rintro e w' ⟨h0, ⟨v, h1, h2, h3⟩ | ⟨k, h1, h2, h3, h4⟩⟩
  · exact ⟨h0, v, l.length, 0, h1, .inl ⟨rfl, rfl, h2, h3⟩⟩
  · exact ⟨h0, _, k, 250, h2, .inr ⟨rfl, rfl, h1, h3, h4⟩⟩
theorem lists_small (w : World) (ao : Option Addr) (cap : Nat) (l : List Nat) (hl : ∀ y ∈ l, y < 4294967296) (hr : Rw w ao l) (hnone : ao = none → l.length = 0 ∧ cap = 0) (hlen : l.length ≤ 2000) : Calls Try.prog 16 #[.slice ao l.length cap] w fun e w' => e = .returned (.bool true) ∧ Below w.heap.size w w' := by
  have HL := Lib.hid hl
  have HR := Lib.hid hr
  have HNO := Lib.hid hnone
  have dn : decide ((2000 : Int) < (l.length : Int)) = false := decide_eq_false (by omega)
  have dn2 : decide (2000 < l.length) = false := decide_eq_false (by omega)
  clear hl hr hnone
  go_enter Try.func16, Try.ntmps16
  go_wp2_with (first
    | (refine wpList_append32 rfl _ _ rfl rfl ao cap l rfl HNO.out HR.out (by omega) ?_; intro v1 w1 hR1 hG1; have c1 := grown_none hG1; have c2 := c1.alloc c1.size (.cells #[.int .u32 77] 28); have q1 := Blk.new w1 #[.int .u32 77] 28; have hR2 := own_later hR1 ((Below.refl w1.heap.size w1).alloc (Nat.le_refl _) (.cells #[.int .u32 77] 28)))
    | (refine wpList_append1 rfl _ _ 82 rfl w.heap.size 28 1 4 _ Try.underlying82 info32 rfl (by decide) (by decide) v1 _ _ rfl hR2 _ 1 #[.int .u32 77] _ q1 rfl rfl (by simp [Value.oneCell']) (by omega) c2.size ?_; intro v2 w2 hR3 hG3; have c3 := own_below hR2 hG3 c2 (Nat.le_refl _) c2.size; obtain ⟨g, cap2, rfl, hc1, hc2⟩ := own_room hR3; have hR4 : RowW w2 w.heap.size (.slice (some ⟨g, 0, none⟩) (l.length + 1) cap2) (l ++ [77]) := (by show World.ownsRow _ _ _ _ _ _ _; rw [u32s_append, List.length_append]; exact hR3); have HC := Lib.hid c3; have HR3 := Lib.hid hR4; clear hR1 hG1 c1 c2 q1 hR2 hG3 c3 hR3 hR4)
    | (go_at_call 51; refine (dlist_c w2 (some ⟨g, 0, none⟩) cap2 l HL.out hlen (RowW.reads HR3.out)).mono ?_; rintro e w3 ⟨b3, v3, ks, cs, rfl, hD⟩; have HD := Lib.hid hD; have B3 := Lib.hid b3; clear hD b3))
  have hW3 : Below w.heap.size w w3 := HC.out.trans (B3.out.mono HC.out.size)
  have hM3 : RowW w3 w.heap.size (.slice (some ⟨g, 0, none⟩) (l.length + 1) cap2) (l ++ [77]) := own_later HR3.out B3.out
  have HW3 := Lib.hid hW3
  have HM3 := Lib.hid hM3
  have hm77 : ∀ X, Below w3.heap.size w3 X → X.cell? ⟨g, l.length, none⟩ = some (.int .u32 77) := fun X hX => by
    have h := hM3.cell l.length (by rw [List.length_append]; exact Nat.lt_succ_self _)
    rw [List.getElem?_append_right (Nat.le_refl _)] at h
    simp only [Nat.sub_self, List.getElem?_cons_zero, Option.getD_some] at h
    exact (hX.cell (World.block_lt_of_cell? w3 _ h)).trans h
  have HM77 := Lib.hid hm77
  clear hW3 hM3 hm77
  have hD := HD.out
  clear HD HR3 HC B3
  rcases hD with ⟨rfl, rfl, hO, hS⟩ | ⟨rfl, rfl, hks, hS, hF⟩
  · have hO4 : w3.ownsRow w2.heap.size 27 11 v3 l.length (isv (l.map DG)) := by
      have h : w3.ownsRow w2.heap.size 27 11 v3 (l.map DG).length (isv (l.map DG)) := hO
      rwa [List.length_map] at h
    obtain ⟨ao3, cp3, rfl, hao3⟩ := own_len hO4
    have HO := Lib.hid hO4
    have HS := Lib.hid hS
    have HAO := Lib.hid hao3
    clear hO hO4 hS hao3
    go_loopw [7] (fun i wr => ∃ k : Nat, k ≤ l.length ∧ i = .int .i64 k ∧ Below w3.heap.size w3 wr) (fun i _ => l.length - (intOf i).toNat)
    case atStart => exact ⟨0, by omega, rfl, Below.refl _ _⟩
    case round =>
      obtain ⟨k, hk, rfl, hB⟩ := hrel
      by_cases hlt : k < l.length
      · obtain ⟨g3, rfl⟩ := HAO.out (by omega)
        obtain ⟨x, hx⟩ : ∃ x, l[k]? = some x := ⟨_, List.getElem?_eq_getElem hlt⟩
        have hx32 := HL.out x (List.mem_of_getElem? hx)
        obtain ⟨ad, rfl, hc0⟩ := HR.out k hlt
        rw [hx, Option.getD_some] at hc0
        have hBw := HW3.out.trans (hB.mono HW3.out.size)
        have hc : wr.cell? (ad.add k) = some (.int .u32 (x : Nat)) := (hBw.cell (World.block_lt_of_cell? w _ hc0)).trans hc0
        obtain ⟨y, hy⟩ := Option.isSome_iff_exists.1 (HS.out k hlt)
        rw [hx, Option.getD_some] at hy
        have HY : Hid ((l.map DG)[k]? = some y) := Lib.hid (by rw [List.getElem?_map, hx]; simp [DG, hy])
        have CD : Hid (∀ X, Calls Try.prog 43 #[.int .u32 x] X fun e w' => e = .returned (.tuple #[.agg (instV y), .int .i64 0]) ∧ Below X.heap.size X w') := Lib.hid fun X => by
          have := rdec_c X x hx32; unfold DecP at this; rw [hy] at this; exact this
        have HXX := Lib.hid hx
        have HB := Lib.hid hB
        have dk : decide (k < l.length) = true := decide_eq_true hlt
        clear hx hc0 hx32 hB hy
        go_upto_region 11 with (first
          | (go_at_call 43; (with_reducible refine (CD.out _).mono ?_); rintro e w5 ⟨rfl, b5⟩))
        have bV := b5.alloc b5.size (.cells (instV y) 27)
        have qV := Blk.new w5 (instV y) 27
        show Code.wp _ _ _ _ (w5.alloc (.cells (instV y) 27))
        obtain ⟨V, hV⟩ : ∃ V, w5.alloc (.cells (instV y) 27) = V := ⟨_, rfl⟩
        obtain ⟨pv, hpv⟩ : ∃ pv, w5.heap.size = pv := ⟨_, rfl⟩
        rw [hV] at bV qV ⊢
        rw [hpv] at qV ⊢
        have b3V : Below w3.heap.size w3 V := HB.out.trans (bV.mono HB.out.size)
        have hOV := own_later HO.out b3V
        have hcV : V.cell? (ad.add k) = some (.int .u32 (x : Nat)) := (bV.cell (World.block_lt_of_cell? wr _ hc)).trans hc
        have hmV : V.cell? ⟨g, k, none⟩ = some (.int .u32 (x : Nat)) := by
          have h := HM3.out.cell k (by rw [List.length_append]; omega)
          rw [List.getElem?_append_left hlt, HXX.out, Option.getD_some] at h
          exact (b3V.cell (World.block_lt_of_cell? w3 _ h)).trans h
        have e0 : V.cell? ⟨g3, k * 11, none⟩ = some (.int .u8 (y.op : Nat)) := (own_cell hOV).2.2 (k * 11 + 0) _ (by rw [isv_get (l.map DG) k 0 y HY.out (by decide)]; rfl)
        have e1 : V.cell? ⟨g3, k * 11 + 1, none⟩ = some (.int .u8 (y.form : Nat)) := (own_cell hOV).2.2 (k * 11 + 1) _ (by rw [isv_get (l.map DG) k 1 y HY.out (by decide)]; rfl)
        have e2 : V.cell? ⟨g3, k * 11 + 2, none⟩ = some (.int .u8 (y.frm : Nat)) := (own_cell hOV).2.2 (k * 11 + 2) _ (by rw [isv_get (l.map DG) k 2 y HY.out (by decide)]; rfl)
        have e3 : V.cell? ⟨g3, k * 11 + 3, none⟩ = some (.int .u8 (y.kind : Nat)) := (own_cell hOV).2.2 (k * 11 + 3) _ (by rw [isv_get (l.map DG) k 3 y HY.out (by decide)]; rfl)
        have e4 : V.cell? ⟨g3, k * 11 + 4, none⟩ = some (.int .u8 (y.rd : Nat)) := (own_cell hOV).2.2 (k * 11 + 4) _ (by rw [isv_get (l.map DG) k 4 y HY.out (by decide)]; rfl)
        have e5 : V.cell? ⟨g3, k * 11 + 5, none⟩ = some (.int .u8 (y.rs1 : Nat)) := (own_cell hOV).2.2 (k * 11 + 5) _ (by rw [isv_get (l.map DG) k 5 y HY.out (by decide)]; rfl)
        have e6 : V.cell? ⟨g3, k * 11 + 6, none⟩ = some (.int .u8 (y.rs2 : Nat)) := (own_cell hOV).2.2 (k * 11 + 6) _ (by rw [isv_get (l.map DG) k 6 y HY.out (by decide)]; rfl)
        have e7 : V.cell? ⟨g3, k * 11 + 7, none⟩ = some (.int .u8 (y.rs3 : Nat)) := (own_cell hOV).2.2 (k * 11 + 7) _ (by rw [isv_get (l.map DG) k 7 y HY.out (by decide)]; rfl)
        have e8 : V.cell? ⟨g3, k * 11 + 8, none⟩ = some (.int .u8 (y.rm : Nat)) := (own_cell hOV).2.2 (k * 11 + 8) _ (by rw [isv_get (l.map DG) k 8 y HY.out (by decide)]; rfl)
        have e9 : V.cell? ⟨g3, k * 11 + 9, none⟩ = some (.int .i16 y.imm) := (own_cell hOV).2.2 (k * 11 + 9) _ (by rw [isv_get (l.map DG) k 9 y HY.out (by decide)]; rfl)
        have e10 : V.cell? ⟨g3, k * 11 + 10, none⟩ = some (.int .u8 (y.csr : Nat)) := (own_cell hOV).2.2 (k * 11 + 10) _ (by rw [isv_get (l.map DG) k 10 y HY.out (by decide)]; rfl)
        have y0 : V.cell? ⟨pv, 0, none⟩ = some (.int .u8 (y.op : Nat)) := qV.cell 0
        have y1 : V.cell? ⟨pv, 1, none⟩ = some (.int .u8 (y.form : Nat)) := qV.cell 1
        have y2 : V.cell? ⟨pv, 2, none⟩ = some (.int .u8 (y.frm : Nat)) := qV.cell 2
        have y3 : V.cell? ⟨pv, 3, none⟩ = some (.int .u8 (y.kind : Nat)) := qV.cell 3
        have y4 : V.cell? ⟨pv, 4, none⟩ = some (.int .u8 (y.rd : Nat)) := qV.cell 4
        have y5 : V.cell? ⟨pv, 5, none⟩ = some (.int .u8 (y.rs1 : Nat)) := qV.cell 5
        have y6 : V.cell? ⟨pv, 6, none⟩ = some (.int .u8 (y.rs2 : Nat)) := qV.cell 6
        have y7 : V.cell? ⟨pv, 7, none⟩ = some (.int .u8 (y.rs3 : Nat)) := qV.cell 7
        have y8 : V.cell? ⟨pv, 8, none⟩ = some (.int .u8 (y.rm : Nat)) := qV.cell 8
        have y9 : V.cell? ⟨pv, 9, none⟩ = some (.int .i16 y.imm) := qV.cell 9
        have y10 : V.cell? ⟨pv, 10, none⟩ = some (.int .u8 (y.csr : Nat)) := qV.cell 10
        have hne : ∀ X, (binOp .neq 27 (.agg (instV y)) (.agg (instV y))).run Try.prog X = .ok (.bool false) X := fun X => by rw [neq_inst, decide_eq_true rfl]; rfl
        have hxx : ((x : Int) != (x : Int)) = false := by simp
        have HBV := Lib.hid b3V
        clear hV hpv bV qV b3V hOV hc b5
        refine wp_region_sets_lit (fun _ w' => ∃ q, w' = V.drewN q) (by kernel_rfl) (by kernel_rfl) ⟨1, rfl⟩ ?_
        (repeat (first | (refine sets_quiet (fun w' => ∃ q, w' = V.drewN q) (fun _ _ h => h) rfl (fun _ _ _ h => h) rfl ?_; intro K hK; go_big_quiet_op; first | go_big_quiet_on | (refine ⟨_, fun _ => rfl, ?_⟩; go_big_quiet_on)) | (refine sets_nil rfl (fun _ _ _ h => h) _ rfl _ rfl ?_; simp only [Act.put, List.setIfInBounds_toArray, List.set_cons_succ, List.set_cons_zero]) | (refine sets_skip rfl (fun _ _ _ h => h) ?_; simp only [Act.put, List.setIfInBounds_toArray, List.set_cons_succ, List.set_cons_zero])))
        refine setw_run (.int .i64 ((l.length : Nat))) rfl (fun _ _ _ h => h) (fun w => by simp [execOp, Act.eval, resolve, invoke, builtin, Result.andThen, run_len_slice (P := Try.prog) (t := 61) (h := Try.underlying61), goInt]) ?_
        simp only [Act.put, List.setIfInBounds_toArray, List.set_cons_succ, List.set_cons_zero]
        (repeat (first | (refine sets_quiet (fun w' => ∃ q, w' = V.drewN q) (fun _ _ h => h) rfl (fun _ _ _ h => h) rfl ?_; intro K hK; go_big_quiet_op; first | go_big_quiet_on | (refine ⟨_, fun _ => rfl, ?_⟩; go_big_quiet_on)) | (refine sets_nil rfl (fun _ _ _ h => h) _ rfl _ rfl ?_; simp only [Act.put, List.setIfInBounds_toArray, List.set_cons_succ, List.set_cons_zero]) | (refine sets_skip rfl (fun _ _ _ h => h) ?_; simp only [Act.put, List.setIfInBounds_toArray, List.set_cons_succ, List.set_cons_zero])))
        rintro S _ _ ⟨nq, rfl⟩
        go_wp2
        go_roundw
        case rel => exact ⟨k + 1, by omega, by go_num, HBV.out.trans (below_drewN (Below.refl _ _))⟩
        case measure => simp [intOf]; omega
      · obtain rfl : k = l.length := by omega
        have h77 := HM77.out wr hB
        have dk : decide (l.length < l.length) = false := decide_eq_false (by omega)
        go_wp2_with (first
          | (go_at_call 40; (with_reducible refine (lives25 _).mono ?_); rintro e w9 ⟨rfl, b9⟩))
        go_ret
        have hBw := HW3.out.trans (hB.mono HW3.out.size)
        exact ⟨rfl, hBw.trans (b9.mono hBw.size)⟩
  · have HS := Lib.hid hS
    have HF := Lib.hid hF
    clear hS hF
    go_loopw [7] (fun i wr => ∃ k : Nat, k ≤ ks ∧ i = .int .i64 k ∧ Below w3.heap.size w3 wr) (fun i _ => l.length - (intOf i).toNat)
    case atStart => exact ⟨0, by omega, rfl, Below.refl _ _⟩
    case round =>
      obtain ⟨k, hk, rfl, hB⟩ := hrel
      have hlt : k < l.length := by omega
      obtain ⟨x, hx⟩ : ∃ x, l[k]? = some x := ⟨_, List.getElem?_eq_getElem hlt⟩
      have hx32 := HL.out x (List.mem_of_getElem? hx)
      obtain ⟨ad, rfl, hc0⟩ := HR.out k hlt
      rw [hx, Option.getD_some] at hc0
      have hBw := HW3.out.trans (hB.mono HW3.out.size)
      have hc : wr.cell? (ad.add k) = some (.int .u32 (x : Nat)) := (hBw.cell (World.block_lt_of_cell? w _ hc0)).trans hc0
      have dk : decide (k < l.length) = true := decide_eq_true hlt
      by_cases hkk : k < ks
      · obtain ⟨y, hy⟩ := Option.isSome_iff_exists.1 (HS.out k hkk)
        rw [hx, Option.getD_some] at hy
        have CD : Hid (∀ X, Calls Try.prog 43 #[.int .u32 x] X fun e w' => e = .returned (.tuple #[.agg (instV y), .int .i64 0]) ∧ Below X.heap.size X w') := Lib.hid fun X => by
          have := rdec_c X x hx32; unfold DecP at this; rw [hy] at this; exact this
        have HXX := Lib.hid hx
        have HB := Lib.hid hB
        have HBW := Lib.hid hBw
        clear hx hc0 hx32 hB hy hBw
        go_upto_region 11 with (first
          | (go_at_call 43; (with_reducible refine (CD.out _).mono ?_); rintro e w5 ⟨rfl, b5⟩))
        have bV := b5.alloc b5.size (.cells (instV y) 27)
        show Code.wp _ _ _ _ (w5.alloc (.cells (instV y) 27))
        obtain ⟨V, hV⟩ : ∃ V, w5.alloc (.cells (instV y) 27) = V := ⟨_, rfl⟩
        obtain ⟨pv, hpv⟩ : ∃ pv, w5.heap.size = pv := ⟨_, rfl⟩
        rw [hV] at bV ⊢
        rw [hpv]
        have b3V : Below w3.heap.size w3 V := HB.out.trans (bV.mono HB.out.size)
        have hcV : V.cell? (ad.add k) = some (.int .u32 (x : Nat)) := (bV.cell (World.block_lt_of_cell? wr _ hc)).trans hc
        have hmV : V.cell? ⟨g, k, none⟩ = some (.int .u32 (x : Nat)) := by
          have h := HM3.out.cell k (by rw [List.length_append]; omega)
          rw [List.getElem?_append_left hlt, HXX.out, Option.getD_some] at h
          exact (b3V.cell (World.block_lt_of_cell? w3 _ h)).trans h
        have hxx : ((x : Int) != (x : Int)) = false := by simp
        have HBV := Lib.hid b3V
        clear hV hpv bV b3V hc b5
        refine wp_region_sets_lit (fun _ w' => ∃ q, w' = V.drewN q) (by kernel_rfl) (by kernel_rfl) ⟨1, rfl⟩ ?_
        (repeat (first | (refine sets_quiet (fun w' => ∃ q, w' = V.drewN q) (fun _ _ h => h) rfl (fun _ _ _ h => h) rfl ?_; intro K hK; go_big_quiet_op; first | go_big_quiet_on | (refine ⟨_, fun _ => rfl, ?_⟩; go_big_quiet_on)) | (refine sets_nil rfl (fun _ _ _ h => h) _ rfl _ rfl ?_; simp only [Act.put, List.setIfInBounds_toArray, List.set_cons_succ, List.set_cons_zero]) | (refine sets_skip rfl (fun _ _ _ h => h) ?_; simp only [Act.put, List.setIfInBounds_toArray, List.set_cons_succ, List.set_cons_zero])))
        refine setw_run (.int .i64 (0)) rfl (fun _ _ _ h => h) (fun w => by simp [execOp, Act.eval, resolve, invoke, builtin, Result.andThen, run_len_slice (P := Try.prog) (t := 61) (h := Try.underlying61), goInt]) ?_
        simp only [Act.put, List.setIfInBounds_toArray, List.set_cons_succ, List.set_cons_zero]
        (repeat (first | (refine sets_quiet (fun w' => ∃ q, w' = V.drewN q) (fun _ _ h => h) rfl (fun _ _ _ h => h) rfl ?_; intro K hK; go_big_quiet_op; first | go_big_quiet_on | (refine ⟨_, fun _ => rfl, ?_⟩; go_big_quiet_on)) | (refine sets_nil rfl (fun _ _ _ h => h) _ rfl _ rfl ?_; simp only [Act.put, List.setIfInBounds_toArray, List.set_cons_succ, List.set_cons_zero]) | (refine sets_skip rfl (fun _ _ _ h => h) ?_; simp only [Act.put, List.setIfInBounds_toArray, List.set_cons_succ, List.set_cons_zero])))
        rintro S _ _ ⟨nq, rfl⟩
        go_wp2
        go_roundw
        case rel => exact ⟨k + 1, by omega, by go_num, HBV.out.trans (below_drewN (Below.refl _ _))⟩
        case measure => simp [intOf]; omega
      · obtain rfl : k = ks := by omega
        have hF := HF.out
        rw [hx, Option.getD_some] at hF
        have CD : Hid (∀ X, Calls Try.prog 43 #[.int .u32 x] X fun e w' => e = .returned (.tuple #[.agg (instV zeroI), .int .i64 250]) ∧ Below X.heap.size X w') := Lib.hid fun X => by
          have := rdec_c X x hx32; unfold DecP at this
          have hd : DEC x = none := by simpa using hF
          rw [hd] at this; exact this
        have HBW := Lib.hid hBw
        clear hx hc0 hx32 hB hBw hF
        have zk : ((k : Int) == (k : Int)) = true := by simp
        go_wp2_with (first
          | (go_at_call 43; (with_reducible refine (CD.out _).mono ?_); rintro e w5 ⟨rfl, b5⟩)
          | (go_at_call 40; (with_reducible refine (lives25 _).mono ?_); rintro e w9 ⟨rfl, b9⟩))
        go_ret
        have h1 := HBW.out.trans (b5.mono HBW.out.size)
        have h2 := h1.alloc h1.size (.cells (instV zeroI) 27)
        exact ⟨rfl, h2.trans (b9.mono h2.size)⟩
theorem walk_DecodeLists (ao : Option Addr) (cap : Nat) (l : List Nat) (w : World) (hl : ∀ y ∈ l, y < 4294967296) (hr : Rw w ao l) (hnone : ao = none → l.length = 0 ∧ cap = 0) : Calls Try.prog 16 #[.slice ao l.length cap] w fun e w' => e = .returned (.bool true) ∧ Below w.heap.size w w' := by
  by_cases h : 2000 < l.length
  · exact lists_big w ao cap _ h
  · exact lists_small w ao cap l hl hr hnone (by omega)
end Go.Proofs.Yteelconabmfnkaa
