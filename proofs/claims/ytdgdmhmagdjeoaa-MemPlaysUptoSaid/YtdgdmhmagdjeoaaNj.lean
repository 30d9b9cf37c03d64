/- Scripts that lie in memory; contract of abacuslaw28.small. -/
import Derived.Test.YtdgdmhmagdjeoaaNi
namespace Go.Proofs.Ytdgdmhmagdjeoaa
open Go.RowKit
set_option maxHeartbeats 4000000
set_option maxRecDepth 100000
set_option linter.unusedVariables false
set_option linter.unusedSimpArgs false
/-- a step of a script -/
structure St where
  how : Int
  on : Int
  wd : Int
  nn : Int
  sa : Nat
  hi : Nat
  lo : Nat
  dao : Option Addr
  dc : Nat
  data : List Nat
  pao : Option Addr
  pc : Nat
  pats : List (Nat × List Nat)
abbrev stepV (s : St) : Array Value := #[.int .i64 s.how, .int .i64 s.on, .int .i64 s.wd, .int .i64 s.nn, .int .u64 (s.sa : Nat), .int .u64 (s.hi : Nat), .int .u64 (s.lo : Nat), .slice s.dao s.data.length s.dc, .slice s.pao s.pats.length s.pc]
/-- what a step points to can be read -/
structure StIn (w : World) (s : St) : Prop where
  how : -9223372036854775808 ≤ s.how ∧ s.how ≤ 9223372036854775807
  on : -9223372036854775808 ≤ s.on ∧ s.on ≤ 9223372036854775807
  wd : -9223372036854775808 ≤ s.wd ∧ s.wd ≤ 9223372036854775807
  nn : -9223372036854775808 ≤ s.nn ∧ s.nn ≤ 9223372036854775807
  sa : s.sa < 18446744073709551616
  hi : s.hi < 18446744073709551616
  lo : s.lo < 18446744073709551616
  xs : Xs w s.dao s.dc s.data
  small : ∀ y ∈ s.data, y < 256
  pd : PXd w s.pao s.pats
  ps : ∀ p ∈ s.pats, p.1 < 18446744073709551616 ∧ ∀ y ∈ p.2, y < 256
  dlen : s.data.length ≤ 1048576
  plen : s.pats.length ≤ 1048576
  blen : ∀ p ∈ s.pats, p.2.length ≤ 1048576
theorem StIn.later {w w1 : World} {s : St} (h : StIn w s) (hb : Below w.heap.size w w1) : StIn w1 s :=
  { h with xs := h.xs.later hb, pd := h.pd.later hb }
def zeroSt : St := ⟨0, 0, 0, 0, 0, 0, 0, none, 0, [], none, 0, []⟩
abbrev sget (ss : List St) (i : Nat) : St := ss[i]?.getD zeroSt
/-- a script that can be read -/
def SRd (w : World) (sp : Option Addr) (ss : List St) : Prop :=
  ∀ i, i < ss.length → StIn w (sget ss i) ∧ ∃ a b o, sp = some a ∧ a.add (i * 9) = ⟨b, o, none⟩ ∧ ∀ j v, (stepV (sget ss i))[j]? = some v → w.cell? ⟨b, o + j, none⟩ = some v
theorem SRd.later {w w1 : World} {sp : Option Addr} {ss : List St} (h : SRd w sp ss) (hb : Below w.heap.size w w1) : SRd w1 sp ss := fun i hi => by
  obtain ⟨h1, a, b, o, h2, h3, h4⟩ := h i hi
  exact ⟨h1.later hb, a, b, o, h2, h3, fun j v hv => cell_later hb (h4 j v hv)⟩
theorem sget_mem {ss : List St} {i : Nat} (h : i < ss.length) : sget ss i ∈ ss := by
  show ss[i]?.getD zeroSt ∈ ss
  rw [List.getElem?_eq_getElem h]
  exact List.getElem_mem h
theorem setm_run {P : Program} {ops : Array Oper} {I : (Nat → Bool) → World → Prop} {Q : Act → Prop} {k : Nat} {o : Oper} {rest : List Oper} {a : Act} (v : Value) (hw : Region.wanted o (yielded ops a.tmps) = true) (hI : ∀ S w, S k = false → I S w → I (ins S k) w)
    (hr : ∀ w, (execOp a.eval o).run P w = .ok (.value v) w) (h : wpSets P ops I Q (k + 1) rest (a.put o.dst v)) : wpSets P ops I Q k (o :: rest) a := by
  refine ⟨v, .inl ⟨hw, fun S w hS _ _ hIw => ?_⟩, h⟩
  unfold opTo
  rw [hr w]
  exact ⟨rfl, hI S w hS hIw⟩
/-- a product that is not counted down -/
def bnd (c j : Nat) : Nat := c * j
theorem bnd_zero (c : Nat) : bnd c 0 = 0 := Nat.mul_zero c
theorem bnd_succ (c j : Nat) : bnd c (j + 1) = bnd c j + c := Nat.mul_succ c j
theorem bnd_le {c j m r : Nat} (h : j ≤ m) (e : c * m = r) : bnd c j ≤ r := e ▸ Nat.mul_le_mul_left c h
attribute [local irreducible] bnd
/-- what is counted -/
def patK (ps : List (Nat × List Nat)) : Nat → Nat
  | 0 => 0
  | j + 1 => patK ps j + (pget ps j).2.length
def totK (n : Nat) (ss : List St) : Nat → Nat
  | 0 => n
  | k + 1 => totK n ss k + (sget ss k).data.length + (sget ss k).pats.length + patK (sget ss k).pats (sget ss k).pats.length
def smallB (n : Nat) (ss : List St) : Bool := decide (totK n ss ss.length ≤ 5000) && decide (ss.length ≤ 200)
/-- what a script that is small enough is bounded by -/
def SmallS (n : Nat) (ss : List St) : Prop := n ≤ 5000 ∧ ss.length ≤ 200 ∧ ∀ i, i < ss.length → (sget ss i).data.length ≤ 5000 ∧ (sget ss i).pats.length ≤ 5000 ∧ ∀ j, j < (sget ss i).pats.length → (pget (sget ss i).pats j).2.length ≤ 5000
theorem small_c (w : World) (bo sp : Option Addr) (n bc sc : Nat) (ss : List St) (hs : SRd w sp ss) (hn : n ≤ 1048576) (hL : ss.length ≤ 1048576) :
    Calls Try.prog 25 #[.slice bo n bc, .slice sp ss.length sc] w fun e w' => e = .returned (.bool (smallB n ss)) ∧ (∃ q, w' = w.drewN q) ∧ (smallB n ss = true → SmallS n ss) := by
  obtain ⟨L, hl⟩ : ∃ L, ss.length = L := ⟨_, rfl⟩
  have HL := Lib.hid hl
  obtain ⟨r, hr⟩ : ∃ r, smallB n ss = r := ⟨_, rfl⟩
  have HR : Hid (r = (decide (totK n ss L ≤ 5000) && decide (L ≤ 200))) := Lib.hid (by rw [← hr, ← hl]; rfl)
  rw [hr]
  have HS := Lib.hid hs
  rw [hl] at hL ⊢
  clear hs hl hr
  go_enter Try.func25, Try.ntmps25
  go_wp2
  go_loopw [5, 6] (fun nv i wr => ∃ (k T q : Nat), k ≤ L ∧ i = .int .i64 k ∧ nv = .int .i64 T ∧ wr = w.drewN q ∧ Hid (T ≤ 1048576 + bnd 1099513724928 k) ∧ Hid (T = totK n ss k) ∧ Hid (n ≤ T ∧ ∀ i, i < k → (sget ss i).data.length ≤ T ∧ (sget ss i).pats.length ≤ T ∧ ∀ j, j < (sget ss i).pats.length → (pget (sget ss i).pats j).2.length ≤ T)) (fun _ i _ => L - (intOf i).toNat)
  case atStart => exact ⟨0, n, 0, by omega, rfl, rfl, rfl, Lib.hid (Nat.le_trans hn (Nat.le_add_right _ _)), Lib.hid rfl, Lib.hid ⟨Nat.le_refl _, fun i hi => by omega⟩⟩
  case round =>
    obtain ⟨k, T, q, hk, rfl, rfl, rfl, hT, hQ, hF⟩ := hrel
    by_cases hlt : k < L
    · obtain ⟨hin, a, b, o, rfl, f0, fc⟩ := HS.out k (by rw [HL.out]; exact hlt)
      obtain ⟨s, hsk⟩ : ∃ s, sget ss k = s := ⟨_, rfl⟩
      have HSK := Lib.hid hsk
      rw [hsk] at hin fc
      obtain ⟨D, hD⟩ : ∃ D, s.data.length = D := ⟨_, rfl⟩
      obtain ⟨pn, hpn⟩ : ∃ D, s.pats.length = D := ⟨_, rfl⟩
      have c6 : ∀ q, (w.drewN q).cell? ⟨b, o + 7, none⟩ = some (.slice s.dao D s.dc) := fun q => by rw [← hD]; exact fc 7 _ rfl
      have c7 : ∀ q, (w.drewN q).cell? ⟨b, o + 8, none⟩ = some (.slice s.pao pn s.pc) := fun q => by rw [← hpn]; exact fc 8 _ rfl
      have hTb : T ≤ 1152923703631151104 := by
        have h1 := hT.out
        have h2 := bnd_le (c := 1099513724928) (show k ≤ 1048576 by omega) (r := 1152923703630102528) (by decide)
        omega
      have hd1 := hin.dlen
      have hd2 := hin.plen
      rw [hD] at hd1
      rw [hpn] at hd2
      obtain ⟨T1, hT1⟩ : ∃ x, T + D = x := ⟨_, rfl⟩
      obtain ⟨T2, hT2⟩ : ∃ x, T1 + pn = x := ⟨_, rfl⟩
      have K1 : (T : Int) + (D : Int) = (T1 : Int) := by omega
      have K2 : (T1 : Int) + (pn : Int) = (T2 : Int) := by omega
      have HIN := Lib.hid hin
      have HD := Lib.hid hD
      have HPN := Lib.hid hpn
      have hT1b : T1 ≤ 9000000000000000000 := by omega
      have hT2b : T2 ≤ 9000000000000000000 := by omega
      clear hin fc hD hpn hsk
      go_wp2_with fail
      refine wp_region_tail [_, _, _, _, _, _, _, _, _, _, _, _, _, _, _] [_] (fun _ w' => ∃ q, w' = w.drewN q) (by kernel_rfl) (by kernel_rfl) (by kernel_rfl) ⟨q + 1, rfl⟩ ?_
      (repeat (first | (refine sets_quiet (fun w' => ∃ q, w' = w.drewN q) (fun _ _ h => h) rfl (fun _ _ _ h => h) rfl ?_; intro K hK; go_big_quiet_op; first | go_big_quiet_on | (refine ⟨_, fun _ => rfl, ?_⟩; go_big_quiet_on)) | (refine sets_nil rfl (fun _ _ _ h => h) _ rfl _ rfl ?_; simp only [Act.put, List.setIfInBounds_toArray, List.set_cons_succ, List.set_cons_zero]) | (refine sets_skip rfl (fun _ _ _ h => h) ?_; simp only [Act.put, List.setIfInBounds_toArray, List.set_cons_succ, List.set_cons_zero])))
      refine setm_run (.int .i64 (D : Nat)) rfl (fun _ _ _ h => h) (fun w => by simp [execOp, Act.eval, resolve, invoke, builtin, Result.andThen, run_len_slice (P := Try.prog) (t := 29) (h := Try.underlying29), goInt]) ?_
      simp only [Act.put, List.setIfInBounds_toArray, List.set_cons_succ, List.set_cons_zero]
      (repeat (first | (refine sets_quiet (fun w' => ∃ q, w' = w.drewN q) (fun _ _ h => h) rfl (fun _ _ _ h => h) rfl ?_; intro K hK; go_big_quiet_op; first | go_big_quiet_on | (refine ⟨_, fun _ => rfl, ?_⟩; go_big_quiet_on)) | (refine sets_nil rfl (fun _ _ _ h => h) _ rfl _ rfl ?_; simp only [Act.put, List.setIfInBounds_toArray, List.set_cons_succ, List.set_cons_zero]) | (refine sets_skip rfl (fun _ _ _ h => h) ?_; simp only [Act.put, List.setIfInBounds_toArray, List.set_cons_succ, List.set_cons_zero])))
      refine setm_run (.int .i64 (pn : Nat)) rfl (fun _ _ _ h => h) (fun w => by simp [execOp, Act.eval, resolve, invoke, builtin, Result.andThen, run_len_slice (P := Try.prog) (t := 39) (h := Try.underlying39), goInt]) ?_
      simp only [Act.put, List.setIfInBounds_toArray, List.set_cons_succ, List.set_cons_zero]
      (repeat (first | (refine sets_quiet (fun w' => ∃ q, w' = w.drewN q) (fun _ _ h => h) rfl (fun _ _ _ h => h) rfl ?_; intro K hK; go_big_quiet_op; first | go_big_quiet_on | (refine ⟨_, fun _ => rfl, ?_⟩; go_big_quiet_on)) | (refine sets_nil rfl (fun _ _ _ h => h) _ rfl _ rfl ?_; simp only [Act.put, List.setIfInBounds_toArray, List.set_cons_succ, List.set_cons_zero]) | (refine sets_skip rfl (fun _ _ _ h => h) ?_; simp only [Act.put, List.setIfInBounds_toArray, List.set_cons_succ, List.set_cons_zero])))
      rintro S _ _ ⟨q1, rfl⟩
      clear K1 K2 c6
      go_wp2
      go_loopw [5, 7] (fun nv i wr => ∃ (j T3 q : Nat), j ≤ pn ∧ i = .int .i64 j ∧ nv = .int .i64 T3 ∧ wr = w.drewN q ∧ Hid (T3 ≤ T2 + bnd 1048576 j) ∧ T2 ≤ T3 ∧ Hid (T3 = T2 + patK s.pats j) ∧ Hid (∀ i, i < j → (pget s.pats i).2.length ≤ T3)) (fun _ i _ => pn - (intOf i).toNat)
      case atStart => exact ⟨0, T2, _, by omega, rfl, rfl, rfl, Lib.hid (Nat.le_add_right _ _), Nat.le_refl _, Lib.hid rfl, Lib.hid fun i hi => by omega⟩
      case round =>
        obtain ⟨j, T3, q3, hj, rfl, rfl, rfl, hT3, hT3b, hQ3, hF3⟩ := hrel
        by_cases hlt2 : j < pn
        · obtain ⟨a2, b2, o2, so, cc, hao, g0, g1, g2, _⟩ := HIN.out.pd j (by rw [HPN.out]; exact hlt2)
          have hTb3 : T3 ≤ 1152925000000000000 := by
            have h1 := hT3.out
            have h2 := bnd_le (c := 1048576) (show j ≤ 1048576 by omega) (r := 1099511627776) (by decide)
            omega
          have hbl := HIN.out.blen _ (List.mem_of_getElem? (pget_at (ps := s.pats) (i := j) (by rw [HPN.out]; exact hlt2)))
          obtain ⟨le, hle⟩ : ∃ x, (pget s.pats j).2.length = x := ⟨_, rfl⟩
          have HLE := Lib.hid hle
          rw [hle] at g2 hbl
          obtain ⟨T4, hT4⟩ : ∃ x, T3 + le = x := ⟨_, rfl⟩
          have K3 : (T3 : Int) + (le : Int) = (T4 : Int) := by omega
          have hT4b : T4 ≤ 9000000000000000000 := by omega
          have HT4 : Hid (T4 ≤ T2 + bnd 1048576 (j + 1)) := Lib.hid (by
            have h1 := hT3.out
            rw [bnd_succ, ← Nat.add_assoc, ← hT4]
            exact Nat.add_le_add h1 hbl)
          have HQ4 : Hid (T4 = T2 + patK s.pats (j + 1)) := Lib.hid (by rw [← hT4, hQ3.out]; show _ = T2 + (patK s.pats j + (pget s.pats j).2.length); rw [HLE.out]; omega)
          have HT5 : Hid (T2 ≤ T4) := Lib.hid (by omega)
          have c8 := c7
          rw [hao] at c8
          clear hle
          go_wp2
          go_roundw
          case rel => exact ⟨j + 1, T4, _, by omega, by go_num, rfl, rfl, HT4, HT5.out, HQ4, Lib.hid fun i hi => by
            rcases Nat.lt_or_ge i j with h | h
            · exact Nat.le_trans (hF3.out i h) (by omega)
            · obtain rfl : i = j := by omega
              rw [HLE.out]; omega⟩
          case measure => simp [intOf]; omega
        · have HQN : Hid (T3 = totK n ss (k + 1)) := Lib.hid (by
            have e : j = pn := by omega
            rw [hQ3.out, e]
            show _ = totK n ss k + (sget ss k).data.length + (sget ss k).pats.length + patK (sget ss k).pats (sget ss k).pats.length
            rw [HSK.out, HD.out, HPN.out, ← hQ.out, hT1, hT2])
          have HT3 : Hid (T3 ≤ 1048576 + bnd 1099513724928 (k + 1)) := Lib.hid (by
            have h1 := hT.out
            have h2 := hT3.out
            have h3 := bnd_le (c := 1048576) (show j ≤ 1048576 by omega) (r := 1099511627776) (by decide)
            rw [bnd_succ]
            generalize bnd 1099513724928 k = z1 at *
            generalize bnd 1048576 j = z2 at *
            omega)
          have HFN : Hid (n ≤ T3 ∧ ∀ i, i < k + 1 → (sget ss i).data.length ≤ T3 ∧ (sget ss i).pats.length ≤ T3 ∧ ∀ j, j < (sget ss i).pats.length → (pget (sget ss i).pats j).2.length ≤ T3) := Lib.hid (by
            obtain ⟨e1, e2⟩ := hF.out
            refine ⟨by omega, fun i hi => ?_⟩
            rcases Nat.lt_or_ge i k with h | h
            · obtain ⟨e3, e4, e5⟩ := e2 i h
              exact ⟨by omega, by omega, fun j hj => Nat.le_trans (e5 j hj) (by omega)⟩
            · obtain rfl : i = k := by omega
              rw [HSK.out, HD.out, HPN.out]
              exact ⟨by omega, by omega, fun i hi => hF3.out i (by omega)⟩)
          clear hF hF3 hT hT3 hQ hQ3
          go_wp2
          go_roundw
          case rel => exact ⟨k + 1, T3, _, by omega, by go_num, rfl, rfl, HT3, HQN, HFN⟩
          case measure => simp [intOf]; omega
    · obtain rfl : k = L := by omega
      by_cases h5 : T ≤ 5000
      · have d1 : decide ((T : Int) ≤ 5000) = true := decide_eq_true (by omega)
        have d2 : decide (T ≤ 5000) = true := decide_eq_true h5
        by_cases h6 : k ≤ 200
        · have d3 : decide ((k : Int) ≤ 200) = true := decide_eq_true (by omega)
          have d4 : decide (k ≤ 200) = true := decide_eq_true h6
          go_wp2
          go_ret
          refine ⟨by rw [HR.out, ← hQ.out, d2, d4]; rfl, ⟨_, rfl⟩, fun _ => ⟨Nat.le_trans hF.out.1 h5, by rw [HL.out]; exact h6, fun i hi => ?_⟩⟩
          obtain ⟨e3, e4, e5⟩ := hF.out.2 i (by rw [← HL.out]; exact hi)
          exact ⟨Nat.le_trans e3 h5, Nat.le_trans e4 h5, fun j hj => Nat.le_trans (e5 j hj) h5⟩
        · have d3 : decide ((k : Int) ≤ 200) = false := decide_eq_false (by omega)
          have d4 : decide (k ≤ 200) = false := decide_eq_false h6
          go_wp2
          go_ret
          have e : r = false := by rw [HR.out, ← hQ.out, d2, d4]; rfl
          exact ⟨by rw [e]; rfl, ⟨_, rfl⟩, fun h => by rw [e] at h; cases h⟩
      · have d1 : decide ((T : Int) ≤ 5000) = false := decide_eq_false (by omega)
        have d2 : decide (T ≤ 5000) = false := decide_eq_false h5
        go_wp2
        go_ret
        have e : r = false := by rw [HR.out, ← hQ.out, d2]; rfl
        exact ⟨by rw [e]; rfl, ⟨_, rfl⟩, fun h => by rw [e] at h; cases h⟩
end Go.Proofs.Ytdgdmhmagdjeoaa
