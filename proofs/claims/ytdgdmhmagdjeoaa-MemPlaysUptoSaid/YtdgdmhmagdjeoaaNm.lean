/- Contract of abacuslaw28.both: Change; all cases. -/
import Derived.Test.YtdgdmhmagdjeoaaNl
import Derived.Deep.Cut
namespace Go.Proofs.Ytdgdmhmagdjeoaa
open Go.RowKit
set_option maxHeartbeats 4000000
set_option maxRecDepth 100000
set_option linter.unusedVariables false
set_option linter.unusedSimpArgs false
/-- rows of patches whose bytes lie in rows between B and t -/
structure VIs (w : World) (B t : Nat) (v : Value) (n : Nat) : Prop where
  ex : ∃ qs : List (Nat × Value), qs.length = n ∧ w.ownsRow B 58 2 v n (pcells qs) ∧ ∀ (i : Nat) (q : Nat × Value), qs[i]? = some q → (∃ l, Row w B q.2 l ∧ l.length ≤ 16777216) ∧ ∀ b, q.2.ownBlock = some b → b < t
theorem PIs.vis {w : World} {B : Nat} {v : Value} {ps : List (Nat × List Nat)} (h : PIs w B v ps) (hx : ∀ p ∈ ps, p.2.length ≤ 16777216) : VIs w B w.heap.size v ps.length := by
  obtain ⟨qs, h1, h2, h3⟩ := h.ex
  refine ⟨qs, h1, h2, fun i q hq => ?_⟩
  have hi : i < ps.length := by rw [← h1]; exact (List.getElem?_eq_some_iff.1 hq).1
  obtain ⟨so, c, h4, h5⟩ := h3 i _ (List.getElem?_eq_getElem hi)
  rw [hq] at h4
  cases h4
  exact ⟨⟨_, h5, hx _ (List.getElem_mem hi)⟩, fun b hb => (h5.lt b hb).2⟩
theorem VIs.at {w : World} {B t n c k : Nat} {ao : Option Addr} (h : VIs w B t (.slice ao n c) n) (hk : k < n) : ∃ g v l, ao = some ⟨g, 0, none⟩ ∧ w.cell? ⟨g, k * 2 + 1, none⟩ = some v ∧ Row w B v l ∧ l.length ≤ 16777216 ∧ ∀ b, v.ownBlock = some b → B ≤ b ∧ b < t := by
  obtain ⟨qs, h1, h2, h3⟩ := h.ex
  obtain ⟨q, hq⟩ : ∃ q, qs[k]? = some q := ⟨_, List.getElem?_eq_getElem (by omega)⟩
  obtain ⟨⟨l, h4, h5⟩, h6⟩ := h3 k q hq
  rcases h2.2 with ⟨e1, e2⟩ | ⟨g, cap, cur, e1, _⟩
  · omega
  · simp only [Value.slice.injEq] at e1
    obtain ⟨rfl, _, rfl⟩ := e1
    exact ⟨g, q.2, l, rfl, by rw [h2.cellAt (k * 2 + 1) (by omega), (pcells_get qs k _ hq).2], h4, h5, fun b hb => ⟨(h4.lt b hb).1, h6 b hb⟩⟩
theorem VIs.spoilt {w w' : World} {B t n : Nat} {v u : Value} {l : List Nat} (h : VIs w B t v n) (hu : Row w B u l) (hg : w.grownBy w' u.ownBlock) (hk : RowsKept w w') : VIs w' B t v n := by
  obtain ⟨qs, h1, h2, h3⟩ := h.ex
  refine ⟨qs, h1, h2.kept hg ?_, fun i q hq => ?_⟩
  · rcases hu.apartP h2 with h | h
    · rw [h]; cases v.ownBlock <;> simp
    · cases hv : v.ownBlock with
      | none => exact .inl rfl
      | some b => exact .inr fun e => h (by rw [hv, e])
  · obtain ⟨⟨l1, h4, h5⟩, h8⟩ := h3 i q hq
    obtain ⟨l2, h6, h7⟩ := hk _ _ _ h4
    exact ⟨⟨l2, h7, by omega⟩, h8⟩
theorem VIs.kept {w w1 : World} {r : Option Nat} {B t n : Nat} {v : Value} (h : VIs w B t v n) (hg : w.grownBy w1 r) (hr : ∀ k, r = some k → k < B) : VIs w1 B t v n := by
  obtain ⟨qs, h1, h2, h3⟩ := h.ex
  have key : ∀ u : Value, (∀ k, u.ownBlock = some k → B ≤ k ∧ k < w.heap.size) → u.ownBlock = none ∨ u.ownBlock ≠ r := fun u hu => by
    cases hb : u.ownBlock with
    | none => exact .inl rfl
    | some k =>
      refine .inr fun e => ?_
      have h1 := hu k hb
      have h2 := hr k e.symm
      omega
  refine ⟨qs, h1, h2.kept hg (key _ h2.lt), fun i q hq => ?_⟩
  obtain ⟨⟨l, h4, h5⟩, h6⟩ := h3 i q hq
  exact ⟨⟨l, h4.kept hg (key _ h4.lt), h5⟩, h6⟩
theorem both4 (w : World) (B m c : Nat) (v : Value) (l : List Nat) (xo : Option Addr) (s : St) (h : BothI w B m v l xo c s) (h0 : s.how = 4) :
    Calls Try.prog 27 #[.pointer (some ⟨m, 0, none⟩), .slice xo l.length c, .agg (stepV s)] w (BothP w B m v l.length xo) := by
  have hin := h.st w (World.grownBy.refl _ _)
  have h16 := h.mem.len
  obtain ⟨er, her⟩ : ∃ V, chgE l s.pats = V := ⟨_, rfl⟩
  obtain ⟨l', hl'⟩ : ∃ V, chgX l s.pats = V := ⟨_, rfl⟩
  have hll : l'.length = l.length := by rw [← hl', chgX_len]
  have hpb := hin.plen
  have hbl : ∀ p ∈ s.pats, p.2.length ≤ 16777216 := fun p hp => Nat.le_trans (hin.blen p hp) (by omega)
  have hbx : ∀ p ∈ s.pats, p.1 < 18446744073709551616 ∧ p.2.length ≤ 16777216 := fun p hp => ⟨(hin.ps p hp).1, hbl p hp⟩
  obtain ⟨n, hn⟩ : ∃ n, l.length = n := ⟨_, rfl⟩
  have HN := Lib.hid (hll.trans hn)
  have HLL := Lib.hid hll
  have H := Lib.hid h
  obtain ⟨pn, hpn⟩ : ∃ V, s.pats.length = V := ⟨_, rfl⟩
  have HPN := Lib.hid hpn
  have C0 : Hid (∀ X, w.grownBy X v.ownBlock → Calls Try.prog 39 #[.slice s.pao pn s.pc] X fun e w' => ∃ io ic, e = .returned (.slice io pn ic) ∧ PIs w' X.heap.size (.slice io pn ic) s.pats ∧ Below X.heap.size X w') := Lib.hid fun X hg => by
    have := own_c X s.pao s.pc s.pats (h.st X hg).pd (by omega) hbl
    rw [hpn] at this
    refine this.mono ?_
    rintro e w' ⟨v', rfl, h1, h2⟩
    obtain ⟨io, ic, rfl, _⟩ := h1.shape
    rw [hpn] at h1 ⊢
    exact ⟨io, ic, rfl, h1, h2⟩
  have C1 : Hid (∀ X, w.grownBy X v.ownBlock → Below w.heap.size w X → Calls Try.prog 40 #[.slice xo n c, .slice s.pao pn s.pc] X fun e w' => ∃ ao c, e = .returned (.tuple #[.slice ao n c, .int .i64 er]) ∧ Xs w' ao c l' ∧ Below X.heap.size X w' ∧ (ao = xo ∨ ∀ a, ao = some a → X.heap.size ≤ a.block)) := Lib.hid fun X hg hX => by
    have := rchange_any X xo s.pao c s.pc l s.pats (h.xs.later hX) (h.st X hg).pd h16 (by omega) hbx
    rw [her, hl', hn, hpn] at this
    unfold GaveX at this
    rw [hll, hn] at this
    exact this
  have C2 : Hid (∀ X io ic B2, MemIs X B m v l → w.heap.size ≤ B2 → PIs X B2 (.slice io pn ic) s.pats → Calls Try.prog 23 #[.pointer (some ⟨m, 0, none⟩), .slice io pn ic] X fun e w' => e = .returned (.int .i64 er) ∧ MemIs w' B m v l' ∧ X.grownBy w' v.ownBlock ∧ PIs w' B2 (.slice io pn ic) s.pats) := Lib.hid fun X io ic B2 hm hB2 hP => by
    have key : ∀ Y, X.grownBy Y v.ownBlock → PIs Y B2 (.slice io pn ic) s.pats := fun Y hY => hP.kept hY fun k hk => .inl (by have := (h.mem.own.lt k hk).2; omega)
    have := change_any X B m v l io ic s.pats hm (by omega) hbx (fun p hp => (hin.ps p hp).2) (fun Y hY => (key Y hY).rd)
    rw [her, hl', hpn] at this
    exact this.mono fun e w' ⟨h1, h2, h3⟩ => ⟨h1, h2, h3, key _ h3⟩
  have C3 : Hid (∀ X io ic B2, w.grownBy X v.ownBlock → PIs X B2 (.slice io pn ic) s.pats → Calls Try.prog 30 #[.slice io pn ic, .slice s.pao pn s.pc] X fun e w' => e = .returned (.bool true) ∧ ∃ q, w' = X.drewN q) := Lib.hid fun X io ic B2 hg hP => by
    have := rsamep_c X io s.pao ic s.pc s.pats hP.rd (h.st X hg).pd.prd (by omega) hbl
    rwa [hpn] at this
  have HV : Hid (∀ X io ic B2, PIs X B2 (.slice io pn ic) s.pats → VIs X B2 X.heap.size (.slice io pn ic) pn) := Lib.hid fun X io ic B2 hP => by
    have := hP.vis hbl
    rwa [hpn] at this
  have hckk : (er == er) = true := by simp
  rw [hn]
  obtain ⟨how, on, wd, nn, sa, hi, lo, dao, dc, data, pao, pc, pats⟩ := s
  simp only [] at h0 C0 C1 C2 C3 HV hpb hpn
  rw [hpn] at hpb
  subst h0
  have hb1 := below_alloc w (.cells (stepV ⟨4, on, wd, nn, sa, hi, lo, dao, dc, data, pao, pc, pats⟩) 41)
  have hk1 := Blk.new w (stepV ⟨4, on, wd, nn, sa, hi, lo, dao, dc, data, pao, pc, pats⟩) 41
  obtain ⟨W, hW⟩ : ∃ W, w.alloc (.cells (stepV ⟨4, on, wd, nn, sa, hi, lo, dao, dc, data, pao, pc, pats⟩) 41) = W := ⟨_, rfl⟩
  rw [hW] at hb1 hk1
  have d8 := hk1.cell 8
  simp only [List.getElem?_toArray, List.getElem?_cons_succ, List.getElem?_cons_zero] at d8
  rw [hpn] at d8
  have HPL := Lib.hid hpn
  have HB1 := Lib.hid hb1
  have HK1 := Lib.hid hk1
  have HD8 := Lib.hid d8
  have HW := Lib.hid hW
  clear h hin her hl' hll hn h16 hb1 hk1 hW d8 hbl hbx hpn
  go_enter Try.func27, Try.ntmps27
  go_upto_region 23 with fail
  change Code.wp _ _ _ _ (w.alloc (.cells (stepV ⟨4, on, wd, nn, sa, hi, lo, dao, dc, data, pao, pc, pats⟩) 41))
  rw [HW.out]
  have d8 := HD8.out
  clear HD8 HW
  go_wp2_with (first
    | (go_at_call 39; (with_reducible refine (C0.out _ (below_grown HB1.out _)).mono ?_); rintro e w2 ⟨io, ic, rfl, p2, b2⟩; have k2 := blkc HK1.out b2; have d8 := k2.cell 8; simp only [List.getElem?_toArray, List.getElem?_cons_succ, List.getElem?_cons_zero, HPL.out] at d8; have K2 := Lib.hid k2; have P2 := Lib.hid p2; have B2 := Lib.hid (HB1.out.trans (b2.mono HB1.out.size)); clear p2 b2 k2)
    | (go_at_call 40; (with_reducible refine (C1.out _ (below_grown B2.out _) B2.out).mono ?_); rintro e w3 ⟨xo3, c3, rfl, x3, b3, o3⟩; have K3 := Lib.hid (blkc K2.out b3); have P3 := Lib.hid (P2.out.later b3); have V3 := Lib.hid ((HV.out _ _ _ _ P2.out).kept (below_grown b3 none) (fun k hk => by cases hk)); have B3 := Lib.hid (B2.out.trans (b3.mono B2.out.size)); have X3 := Lib.hid x3; have O3 := Lib.hid o3; clear b3 x3 o3)
    | (go_at_call 23; (with_reducible refine (C2.out _ _ _ _ (H.out.mem.later B3.out) HB1.out.size P3.out).mono ?_); rintro e w4 ⟨rfl, m4, g4, p4⟩; have k4 := grown_blk g4 K3.out (H.out.neb (Nat.le_refl _)); have d8 := k4.cell 8; simp only [List.getElem?_toArray, List.getElem?_cons_succ, List.getElem?_cons_zero, HPL.out] at d8; have P4 := Lib.hid p4; have M4 := Lib.hid m4; have G4 := Lib.hid (grown_trans (below_grown B3.out _) g4); have X4 := Lib.hid (X3.out.kept' g4 (H.out.ap' B2.out.size HLL.out O3.out)); have V4 := Lib.hid (V3.out.kept g4 (fun k hk => by have h1 := (H.out.mem.own.lt k hk).2; have h2 := HB1.out.size; omega)); clear k4 m4 g4 p4)
    | (go_at_call 30; (with_reducible refine (C3.out _ _ _ _ G4.out P4.out).mono ?_); rintro e w5 ⟨rfl, q5, rfl⟩))
  have d5 : Below w4.heap.size w4 (w4.drewN q5) := below_drewN (Below.refl _ _)
  have V5 := Lib.hid (V4.out.kept (below_grown d5 none) (fun k hk => by cases hk))
  have M5 := Lib.hid (M4.out.later d5)
  have X5 := Lib.hid (X4.out.later d5)
  have G5 := Lib.hid (grown_drewN G4.out q5)
  clear d5 d8 M4 X4 V4 V3 X3 P2 P3 P4 K2 K3 HK1 C0 C1 C2 C3 HV
  go_loopw [29] (fun i wr => ∃ k : Nat, k ≤ pn ∧ i = .int .i64 k ∧ VIs wr W.heap.size w2.heap.size (.slice io pn ic) pn ∧ MemIs wr B m v l' ∧ Xs wr xo3 c3 l' ∧ w.grownBy wr v.ownBlock) (fun i _ => pn - (intOf i).toNat)
  case atStart => exact ⟨0, by omega, rfl, V5.out, M5.out, X5.out, G5.out⟩
  case round =>
    obtain ⟨k, hk, rfl, hV, hM, hX, hG⟩ := hrel
    by_cases hlt : k < pn
    · obtain ⟨g, u, lu, rfl, hcu, hru, hlu, hbu⟩ := hV.at hlt
      have HVV := Lib.hid hV
      have HMM := Lib.hid hM
      have HXX := Lib.hid hX
      have HGG := Lib.hid hG
      have HRU := Lib.hid hru
      have HBU : Hid (∀ k, u.ownBlock = some k → w.heap.size ≤ k ∧ k < w2.heap.size) := Lib.hid fun k hk => ⟨Nat.le_trans HB1.out.size (hbu k hk).1, (hbu k hk).2⟩
      clear hV hM hX hG hru hbu V5 M5 X5 G5
      go_wp2_with (first
        | (go_at_call 26; (with_reducible refine (spoil_any _ _ _ lu (by omega) HRU.out).mono ?_); rintro e w6 ⟨rfl, g6, k6⟩; have V6 := Lib.hid (HVV.out.spoilt HRU.out g6 k6); have M6 := Lib.hid (H.out.km HMM.out g6 fun k hk => (HBU.out k hk).1); have X6 := Lib.hid (H.out.kx (w2 := w2) HXX.out HLL.out (O3.out) g6 HBU.out); have G6 := Lib.hid (grown_new HGG.out g6 fun k hk => (HBU.out k hk).1); clear g6 k6))
      go_roundw
      case rel => exact ⟨k + 1, by omega, by go_num, V6.out, M6.out, X6.out, G6.out⟩
      case measure => simp [intOf]; omega
    · have HMM := Lib.hid hM
      have HXX := Lib.hid hX
      have HGG := Lib.hid hG
      clear hV hM hX hG V5 M5 X5 G5
      go_wp2
      go_ret2
      exact ⟨xo3, c3, l', rfl, HN.out, HMM.out, HXX.out, HGG.out, O3.out.imp id fun ho a ha => Nat.le_trans B2.out.size (ho a ha)⟩
theorem both_c (w : World) (B m c : Nat) (v : Value) (l : List Nat) (xo : Option Addr) (s : St) (h : BothI w B m v l xo c s) :
    Calls Try.prog 27 #[.pointer (some ⟨m, 0, none⟩), .slice xo l.length c, .agg (stepV s)] w (BothP w B m v l.length xo) := by
  by_cases h0 : s.how = 0
  · exact both0 w B m c v l xo s h h0
  by_cases h1 : s.how = 1
  · exact both1 w B m c v l xo s h h1
  by_cases h2 : s.how = 2
  · exact both2 w B m c v l xo s h h2
  by_cases h3 : s.how = 3
  · exact both3 w B m c v l xo s h h3
  by_cases h4 : s.how = 4
  · exact both4 w B m c v l xo s h h4
  exact bothE w B m c v l xo s h h0 h1 h2 h3 h4
end Go.Proofs.Ytdgdmhmagdjeoaa
