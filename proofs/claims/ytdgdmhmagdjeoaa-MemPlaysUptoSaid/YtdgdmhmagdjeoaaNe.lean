/- Contracts of abacusref28.Change, SamePatches; of mem.Change whatever the patches. -/
import Derived.Test.YtdgdmhmagdjeoaaNd
import Derived.Test.YtdgdmhmagdjeoaaKy
namespace Go.Proofs.Ytdgdmhmagdjeoaa
open Go.RowKit
set_option maxHeartbeats 4000000
set_option maxRecDepth 100000
set_option linter.unusedVariables false
set_option linter.unusedSimpArgs false
/-- patches that can be read -/
def PXd (w : World) (ao : Option Addr) (ps : List (Nat × List Nat)) : Prop :=
  ∀ i, i < ps.length → ∃ a b o so c, ao = some a ∧ a.add (i * 2) = ⟨b, o, none⟩ ∧ w.cell? ⟨b, o, none⟩ = some (.int .u64 ((pget ps i).1 : Nat)) ∧ w.cell? ⟨b, o + 1, none⟩ = some (.slice so (pget ps i).2.length c) ∧ Xs w so c (pget ps i).2
theorem PXd.prd {w : World} {ao : Option Addr} {ps : List (Nat × List Nat)} (h : PXd w ao ps) : PRd w ao ps := fun i hi => by
  obtain ⟨a, b, o, so, c, h1, h2, h3, h4, h5⟩ := h i hi
  exact ⟨a, b, o, so, c, h1, h2, h3, h4, h5.rd⟩
theorem PXd.later {w w1 : World} {ao : Option Addr} {ps : List (Nat × List Nat)} (h : PXd w ao ps) (hb : Below w.heap.size w w1) : PXd w1 ao ps := fun i hi => by
  obtain ⟨a, b, o, so, c, h1, h2, h3, h4, h5⟩ := h i hi
  exact ⟨a, b, o, so, c, h1, h2, cell_later hb h3, cell_later hb h4, h5.later hb⟩
theorem PIs.xd {w : World} {B : Nat} {ao : Option Addr} {n c : Nat} {ps : List (Nat × List Nat)} (h : PIs w B (.slice ao n c) ps) : PXd w ao ps := fun i hi => by
  obtain ⟨qs, h1, h2, h3⟩ := h.ex
  obtain ⟨so, d, h4, h5⟩ := h3 i _ (List.getElem?_eq_getElem hi)
  have e : pget ps i = ps[i] := by simp [pget, List.getElem?_eq_getElem hi]
  rcases h2.2 with ⟨e1, e2⟩ | ⟨g, cap, cur, e1, _⟩
  · omega
  · simp only [Value.slice.injEq] at e1
    obtain ⟨rfl, rfl, rfl⟩ := e1
    obtain ⟨c1, c2⟩ := pcells_get qs i _ h4
    refine ⟨_, g, i * 2, so, d, rfl, add0 _ _, ?_, ?_, ?_⟩
    · rw [h2.cellAt (i * 2) (by omega), c1, e]
    · rw [h2.cellAt (i * 2 + 1) (by omega), c2, e]
    · rw [e]; exact h5.xs
def chgX (l : List Nat) (ps : List (Nat × List Nat)) : List Nat := if fits l.length ps = true then putAll8 l ps else l
def chgE (l : List Nat) (ps : List (Nat × List Nat)) : Int := if fits l.length ps = true then 0 else 280
theorem chgX_len (l : List Nat) (ps : List (Nat × List Nat)) : (chgX l ps).length = l.length := by
  unfold chgX
  split
  · next h => exact putAll8_length ps l rfl (fits_yes h)
  · rfl
theorem pget_at {ps : List (Nat × List Nat)} {i : Nat} (h : i < ps.length) : ps[i]? = some (pget ps i) := by
  simp [pget, List.getElem?_eq_getElem h]
theorem ex_v {P : Program} {ρ : Operand → Value} {o : Oper} {w w' : World} {v : Value} (s : Sem Value) (h : execOp ρ o = (do pure (.value (← s)))) (hr : s.run P w = .ok v w') : (execOp ρ o).run P w = .ok (.value v) w' := by
  rw [h]; simp [Sem.run_bind, hr]
/-- what Put hands back, taken apart -/
def VAL2 (n er : Nat) (t : Option Addr × Nat) : Nat → Value
  | 11 => .tuple #[.slice t.1 n t.2, .int .i64 er]
  | 12 => .tuple #[.slice t.1 n t.2, .int .i64 er]
  | 13 => .slice t.1 n t.2
  | 14 => .int .i64 er
  | 15 => .slice t.1 n t.2
  | 16 => .int .i64 er
  | _ => undef
theorem rchange_any (w : World) (mo po : Option Addr) (cm pc : Nat) (l : List Nat) (ps : List (Nat × List Nat)) (hm : Xs w mo cm l) (hp : PXd w po ps) (hl : l.length ≤ 16777216) (hpl : ps.length ≤ 16777216) (hx : ∀ p ∈ ps, p.1 < 18446744073709551616 ∧ p.2.length ≤ 16777216) :
    Calls Try.prog 40 #[.slice mo l.length cm, .slice po ps.length pc] w (GaveX w mo (chgX l ps) (chgE l ps)) := by
  have HOUT : Hid (∀ (X : World) (i : Nat), i < ps.length → ¬ (pget ps i).1 + (pget ps i).2.length ≤ l.length → Below w.heap.size w X → GaveX w mo (chgX l ps) (chgE l ps) (.returned (.tuple #[.slice mo l.length cm, .int .i64 280])) X) := Lib.hid fun X i hi hf hb => by
    have := fits_no (pget_at hi) hf
    unfold chgX chgE
    rw [this]
    exact ⟨mo, cm, rfl, hm.later hb, hb, .inl rfl⟩
  have HEND : Hid (∀ (X : World) ao c, (∀ i, i < ps.length → (pget ps i).1 + (pget ps i).2.length ≤ l.length) → Xs X ao c (putAll8 l ps) → Below w.heap.size w X → (ao = mo ∨ ∀ a, ao = some a → w.heap.size ≤ a.block) → GaveX w mo (chgX l ps) (chgE l ps) (.returned (.tuple #[.slice ao l.length c, .int .i64 0])) X) := Lib.hid fun X ao c hf hX hb ho => by
    have h1 : fits l.length ps = true := fits_all fun p hp => by
      obtain ⟨i, hi, e⟩ := List.mem_iff_getElem.1 hp
      have := hf i hi
      rwa [show pget ps i = p by simp [pget, List.getElem?_eq_getElem hi, e]] at this
    have h2 := chgX_len l ps
    unfold chgX chgE at *
    rw [if_pos h1] at h2 ⊢
    rw [if_pos h1]
    exact ⟨ao, c, by rw [h2], hX, hb, ho⟩
  have HLEN : Hid (∀ k, (∀ i, i < k → i < ps.length → (pget ps i).1 + (pget ps i).2.length ≤ l.length) → (putAll8 l (ps.take k)).length = l.length) := Lib.hid fun k hf => putAll8_length _ l rfl fun p hp => by
    obtain ⟨i, hi, e⟩ := List.mem_iff_getElem.1 hp
    simp only [List.length_take] at hi
    have := hf i (by omega) (by omega)
    rw [List.getElem_take] at e
    rwa [show pget ps i = p by simp [pget, List.getElem?_eq_getElem (show i < ps.length by omega), e]] at this
  have HBD : Hid (∀ i, i < ps.length → (pget ps i).1 < 18446744073709551616 ∧ (pget ps i).2.length ≤ 16777216) := Lib.hid fun i hi => hx _ (List.mem_of_getElem? (pget_at hi))
  obtain ⟨n, hn⟩ : ∃ n, l.length = n := ⟨_, rfl⟩
  obtain ⟨pn, hpn⟩ : ∃ n, ps.length = n := ⟨_, rfl⟩
  have HM := Lib.hid hm
  have HP := Lib.hid hp
  have HN := Lib.hid hn
  have HPN := Lib.hid hpn
  rw [hn] at hl ⊢
  rw [hpn] at hpl ⊢
  rw [hn] at HOUT HEND HLEN
  clear hm hp hn hpn hx
  go_enter Try.func40, Try.ntmps40
  go_wp2
  go_loopw [0, 7] (fun v i wr => ∃ (k : Nat) (ao : Option Addr) (c : Nat), k ≤ pn ∧ i = .int .i64 k ∧ v = .slice ao n c ∧ Xs wr ao c (putAll8 l (ps.take k)) ∧ Below w.heap.size w wr ∧ Hid (ao = mo ∨ ∀ a, ao = some a → w.heap.size ≤ a.block) ∧ Hid (∀ i, i < k → i < ps.length → (pget ps i).1 + (pget ps i).2.length ≤ n)) (fun _ i _ => pn - (intOf i).toNat)
  case atStart => exact ⟨0, mo, cm, by omega, rfl, rfl, HM.out, Below.refl _ _, Lib.hid (.inl rfl), Lib.hid (fun i h => by omega)⟩
  case round =>
    obtain ⟨k, ao, c, hk, rfl, rfl, hX, hB, hO, hF⟩ := hrel
    by_cases hlt : k < pn
    · obtain ⟨a, b, o, so, c2, rfl, f0, f1, f2, f3⟩ := (HP.out.later hB) k (by rw [HPN.out]; exact hlt)
      have hLL := HLEN.out k hF.out
      have hbd := HBD.out k (by rw [HPN.out]; exact hlt)
      have hst := take_step ps l k (by rw [HPN.out]; exact hlt)
      have HOUTk := Lib.hid fun X h hb => HOUT.out X k (by rw [HPN.out]; exact hlt) h hb
      have HFk : Hid ((pget ps k).1 + (pget ps k).2.length ≤ n → ∀ i, i < k + 1 → i < ps.length → (pget ps i).1 + (pget ps i).2.length ≤ n) := Lib.hid fun h i h1 h2 => by
        rcases Nat.lt_or_ge i k with h3 | h3
        · exact hF.out i h3 h2
        · obtain rfl : i = k := by omega
          exact h
      obtain ⟨p, hp⟩ : ∃ p, pget ps k = p := ⟨_, rfl⟩
      rw [hp] at f1 f2 f3 hbd hst HOUTk HFk
      obtain ⟨pa, pl⟩ := p
      simp only [] at f1 f2 f3 hbd hst HOUTk HFk
      obtain ⟨L, hL⟩ : ∃ L, putAll8 l (ps.take k) = L := ⟨_, rfl⟩
      rw [hL] at hX hLL hst
      obtain ⟨le, hle⟩ : ∃ x, pl.length = x := ⟨_, rfl⟩
      have HLE := Lib.hid hle
      rw [hle] at f2
      have HXX := Lib.hid hX
      have HBB := Lib.hid hB
      have HF3 := Lib.hid f3
      have HST := Lib.hid hst
      have CP : Hid (∀ X, Below wr.heap.size wr X → Calls Try.prog 38 #[.slice ao n c, .int .u64 pa, .slice so le c2] X (GaveX X ao (putX L pa pl) (putE L pa pl))) := Lib.hid fun X hb => by
        have := rput_any X ao so c c2 pa L pl (HXX.out.later hb) (HF3.out.later hb) (by rw [hLL]; exact hl) hbd.2 hbd.1
        rwa [hLL, HLE.out] at this
      have HPXL : Hid ((putX L pa pl).length = n) := Lib.hid (by rw [putX_len, hLL])
      have HLL := Lib.hid hLL
      clear hX hB f3 hst hp hL hle hbd hLL
      by_cases hfit : pa + le ≤ n
      · have HE : Hid (putE L pa pl = ((0 : Nat) : Int)) := Lib.hid (by unfold putE; rw [HLE.out, HLL.out, if_pos hfit]; rfl)
        have HE2 : Hid (putX L pa pl = put L pa pl) := Lib.hid (by unfold putX; rw [HLE.out, HLL.out, if_pos hfit])
        go_wp2_with fail
        refine wp_region_gz [_, _, _, _, _, _, _, _, _, _, _, _, _, _, _, _, _] [] (fun j => [11, 12, 13, 14, 15, 16].contains j) (fun j => [12, 13, 14, 15, 16].contains j) (GI (fun j => [11, 12, 13, 14, 15, 16].contains j) 11 (fun w' => ∃ q, w' = wr.drewN q) (fun t X => Xs X t.1 t.2 (putX L pa pl) ∧ Below wr.heap.size wr X ∧ (t.1 = ao ∨ ∀ a, t.1 = some a → wr.heap.size ≤ a.block)) (VAL2 n 0)) (by kernel_rfl) (by kernel_rfl) (by kernel_rfl) (by kernel_rfl) (fun x => ⟨fun _ => ⟨1, rfl⟩, fun h => by cases h⟩) ?_
        (repeat (first | (refine gi_quiet (fun w' => ∃ q, w' = wr.drewN q) (fun _ h => h) rfl rfl rfl (by kernel_rfl) (by decide) rfl ?_; intro K hK; go_big_quiet_op; first | go_big_quiet_on | (refine ⟨_, fun _ => rfl, ?_⟩; go_big_quiet_on))))
        refine gi_call rfl rfl (by kernel_rfl) rfl 38 [_, _, _] _ rfl Try.f38 Try.func38 (by kernel_rfl) (by kernel_rfl) [.slice ao n c, .int .u64 pa, .slice so le c2] rfl ?_ ?_
        · rintro X ⟨q, rfl⟩
          refine (CP.out _ (below_drewN (Below.refl _ _))).mono ?_
          rintro e X2 ⟨ao2, c3, rfl, hX2, hb2, ho2⟩
          rw [HPXL.out, HE.out]
          exact ⟨(ao2, c3), rfl, hX2, (below_drewN (Below.refl wr.heap.size wr) (k := q)).trans hb2, ho2⟩
        simp only [Act.put, List.setIfInBounds_toArray, List.set_cons_succ, List.set_cons_zero]
        refine gi_part rfl rfl (by decide) 11 rfl rfl (by kernel_rfl) (fun x => by kernel_rfl) (fun t x w h => ?_) ?_
        · show _ = Result.ok (Next.value (VAL2 n 0 t 11)) w
          rw [← h]; kernel_rfl
        simp only [Act.put, List.setIfInBounds_toArray, List.set_cons_succ, List.set_cons_zero]
        refine gi_part rfl rfl (by decide) 12 rfl rfl (by kernel_rfl) (fun x => by kernel_rfl) (fun t x w h => ?_) ?_
        · refine ex_v _ rfl ?_
          show Sem.run _ (Instr.extract (x 12) 0) _ = _
          rw [h]; rfl
        simp only [Act.put, List.setIfInBounds_toArray, List.set_cons_succ, List.set_cons_zero]
        refine gi_part rfl rfl (by decide) 12 rfl rfl (by kernel_rfl) (fun x => by kernel_rfl) (fun t x w h => ?_) ?_
        · refine ex_v _ rfl ?_
          show Sem.run _ (Instr.extract (x 12) 1) _ = _
          rw [h]; rfl
        simp only [Act.put, List.setIfInBounds_toArray, List.set_cons_succ, List.set_cons_zero]
        refine gi_part rfl rfl (by decide) 13 rfl rfl (by kernel_rfl) (fun x => by kernel_rfl) (fun t x w h => ?_) ?_
        · show _ = Result.ok (Next.value (VAL2 n 0 t 13)) w
          rw [← h]; kernel_rfl
        simp only [Act.put, List.setIfInBounds_toArray, List.set_cons_succ, List.set_cons_zero]
        refine gi_part rfl rfl (by decide) 14 rfl rfl (by kernel_rfl) (fun x => by kernel_rfl) (fun t x w h => ?_) ?_
        · show _ = Result.ok (Next.value (VAL2 n 0 t 14)) w
          rw [← h]; kernel_rfl
        simp only [Act.put, List.setIfInBounds_toArray, List.set_cons_succ, List.set_cons_zero]
        rintro x S X hS hI
        obtain ⟨⟨ao2, c3⟩, ⟨hX2, hb2, ho2⟩, hv⟩ := hI.2 (hS 11 (by decide))
        have v11 := hv 11 rfl (hS 11 (by decide))
        have v12 := hv 12 rfl (hS 12 (by decide))
        have v13 := hv 13 rfl (hS 13 (by decide))
        have v14 := hv 14 rfl (hS 14 (by decide))
        have v15 := hv 15 rfl (hS 15 (by decide))
        have v16 := hv 16 rfl (hS 16 (by decide))
        change wpList _ _ _ [] (Act.put (Act.put (Act.put (Act.put (Act.put (Act.put _ (some 29) (x 11)) (some 17) (x 12)) (some 30) (x 13)) (some 31) (x 14)) (some 8) (x 15)) (some 9) (x 16)) _
        rw [v11, v12, v13, v14, v15, v16]
        simp only [VAL2]
        clear v11 v12 v13 v14 v15 v16 hv hS hI
        simp only [Act.put, List.setIfInBounds_toArray, List.set_cons_succ, List.set_cons_zero]
        rw [HE2.out] at hX2
        have HX2 := Lib.hid hX2
        have HB2 := Lib.hid (HBB.out.trans (hb2.mono HBB.out.size))
        have HO2 : Hid (ao2 = mo ∨ ∀ a, ao2 = some a → w.heap.size ≤ a.block) := Lib.hid (by
          rcases ho2 with rfl | h
          · exact hO.out
          · exact .inr fun a ha => Nat.le_trans HBB.out.size (h a ha))
        clear hX2 hb2 ho2
        go_wp2
        go_roundw
        case rel => exact ⟨k + 1, ao2, c3, by omega, by go_num, rfl, by rw [HST.out]; exact HX2.out, HB2.out, HO2, Lib.hid (HFk.out (by rw [HLE.out]; exact hfit))⟩
        case measure => (simp [intOf]; try omega)
      · have HE : Hid (putE L pa pl = ((280 : Nat) : Int)) := Lib.hid (by unfold putE; rw [HLE.out, HLL.out, if_neg hfit]; rfl)
        go_wp2_with fail
        refine wp_region_gz [_, _, _, _, _, _, _, _, _, _, _, _, _, _, _, _, _] [] (fun j => [11, 12, 13, 14, 15, 16].contains j) (fun j => [12, 13, 14, 15, 16].contains j) (GI (fun j => [11, 12, 13, 14, 15, 16].contains j) 11 (fun w' => ∃ q, w' = wr.drewN q) (fun t X => Xs X t.1 t.2 (putX L pa pl) ∧ Below wr.heap.size wr X ∧ (t.1 = ao ∨ ∀ a, t.1 = some a → wr.heap.size ≤ a.block)) (VAL2 n 280)) (by kernel_rfl) (by kernel_rfl) (by kernel_rfl) (by kernel_rfl) (fun x => ⟨fun _ => ⟨1, rfl⟩, fun h => by cases h⟩) ?_
        (repeat (first | (refine gi_quiet (fun w' => ∃ q, w' = wr.drewN q) (fun _ h => h) rfl rfl rfl (by kernel_rfl) (by decide) rfl ?_; intro K hK; go_big_quiet_op; first | go_big_quiet_on | (refine ⟨_, fun _ => rfl, ?_⟩; go_big_quiet_on))))
        refine gi_call rfl rfl (by kernel_rfl) rfl 38 [_, _, _] _ rfl Try.f38 Try.func38 (by kernel_rfl) (by kernel_rfl) [.slice ao n c, .int .u64 pa, .slice so le c2] rfl ?_ ?_
        · rintro X ⟨q, rfl⟩
          refine (CP.out _ (below_drewN (Below.refl _ _))).mono ?_
          rintro e X2 ⟨ao2, c3, rfl, hX2, hb2, ho2⟩
          rw [HPXL.out, HE.out]
          exact ⟨(ao2, c3), rfl, hX2, (below_drewN (Below.refl wr.heap.size wr) (k := q)).trans hb2, ho2⟩
        simp only [Act.put, List.setIfInBounds_toArray, List.set_cons_succ, List.set_cons_zero]
        refine gi_part rfl rfl (by decide) 11 rfl rfl (by kernel_rfl) (fun x => by kernel_rfl) (fun t x w h => ?_) ?_
        · show _ = Result.ok (Next.value (VAL2 n 280 t 11)) w
          rw [← h]; kernel_rfl
        simp only [Act.put, List.setIfInBounds_toArray, List.set_cons_succ, List.set_cons_zero]
        refine gi_part rfl rfl (by decide) 12 rfl rfl (by kernel_rfl) (fun x => by kernel_rfl) (fun t x w h => ?_) ?_
        · refine ex_v _ rfl ?_
          show Sem.run _ (Instr.extract (x 12) 0) _ = _
          rw [h]; rfl
        simp only [Act.put, List.setIfInBounds_toArray, List.set_cons_succ, List.set_cons_zero]
        refine gi_part rfl rfl (by decide) 12 rfl rfl (by kernel_rfl) (fun x => by kernel_rfl) (fun t x w h => ?_) ?_
        · refine ex_v _ rfl ?_
          show Sem.run _ (Instr.extract (x 12) 1) _ = _
          rw [h]; rfl
        simp only [Act.put, List.setIfInBounds_toArray, List.set_cons_succ, List.set_cons_zero]
        refine gi_part rfl rfl (by decide) 13 rfl rfl (by kernel_rfl) (fun x => by kernel_rfl) (fun t x w h => ?_) ?_
        · show _ = Result.ok (Next.value (VAL2 n 280 t 13)) w
          rw [← h]; kernel_rfl
        simp only [Act.put, List.setIfInBounds_toArray, List.set_cons_succ, List.set_cons_zero]
        refine gi_part rfl rfl (by decide) 14 rfl rfl (by kernel_rfl) (fun x => by kernel_rfl) (fun t x w h => ?_) ?_
        · show _ = Result.ok (Next.value (VAL2 n 280 t 14)) w
          rw [← h]; kernel_rfl
        simp only [Act.put, List.setIfInBounds_toArray, List.set_cons_succ, List.set_cons_zero]
        rintro x S X hS hI
        obtain ⟨⟨ao2, c3⟩, ⟨hX2, hb2, ho2⟩, hv⟩ := hI.2 (hS 11 (by decide))
        have v11 := hv 11 rfl (hS 11 (by decide))
        have v12 := hv 12 rfl (hS 12 (by decide))
        have v13 := hv 13 rfl (hS 13 (by decide))
        have v14 := hv 14 rfl (hS 14 (by decide))
        have v15 := hv 15 rfl (hS 15 (by decide))
        have v16 := hv 16 rfl (hS 16 (by decide))
        change wpList _ _ _ [] (Act.put (Act.put (Act.put (Act.put (Act.put (Act.put _ (some 29) (x 11)) (some 17) (x 12)) (some 30) (x 13)) (some 31) (x 14)) (some 8) (x 15)) (some 9) (x 16)) _
        rw [v11, v12, v13, v14, v15, v16]
        simp only [VAL2]
        clear v11 v12 v13 v14 v15 v16 hv hS hI
        simp only [Act.put, List.setIfInBounds_toArray, List.set_cons_succ, List.set_cons_zero]
        have HB2 := Lib.hid (HBB.out.trans (hb2.mono HBB.out.size))
        clear hX2 hb2 ho2
        go_wp2
        go_ret2
        exact HOUTk.out _ (by rw [HLE.out]; exact hfit) HB2.out
    · have HX := Lib.hid hX
      have HBB := Lib.hid hB
      clear hX hB
      go_wp2
      go_ret2
      refine HEND.out _ ao c (fun i hi => hF.out i (by have := HPN.out; omega) hi) ?_ HBB.out hO.out
      have := HX.out
      rwa [List.take_of_length_le (by rw [HPN.out]; omega)] at this
end Go.Proofs.Ytdgdmhmagdjeoaa
