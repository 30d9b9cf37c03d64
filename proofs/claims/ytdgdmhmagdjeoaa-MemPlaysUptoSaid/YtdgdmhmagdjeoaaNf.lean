/- Contracts of mem.Change whatever the patches, abacusref28.SamePatches, abacuslaw28.own, spoil. -/
import Derived.Test.YtdgdmhmagdjeoaaNe
namespace Go.Proofs.Ytdgdmhmagdjeoaa
open Go.RowKit
set_option maxHeartbeats 4000000
set_option maxRecDepth 100000
set_option linter.unusedVariables false
set_option linter.unusedSimpArgs false
theorem change_out (w : World) (B m : Nat) (mo : Option Addr) (n ca : Nat) (l : List Nat) (po : Option Addr) (pc : Nat) (ps : List (Nat × List Nat)) (h : MemIs w B m (.slice mo n ca) l) (hlen : ps.length ≤ 16777216) (hp : PRd w po ps)
    (hx : ∀ p ∈ ps, p.1 < 18446744073709551616 ∧ p.2.length ≤ 16777216) (hnf : fits l.length ps = false) :
    Calls Try.prog 23 #[.pointer (some ⟨m, 0, none⟩), .slice po ps.length pc] w fun e w' => e = .returned (.int .i64 280) ∧ Below w.heap.size w w' := by
  have hnl := h.own.n_eq
  have HBD : Hid (∀ i, i < ps.length → (pget ps i).1 < 18446744073709551616 ∧ (pget ps i).2.length ≤ 16777216) := Lib.hid fun i hi => hx _ (List.mem_of_getElem? (pget_at hi))
  have HNF : Hid (¬ ∀ i, i < ps.length → (pget ps i).1 + (pget ps i).2.length ≤ n) := Lib.hid fun hf => by
    have : fits l.length ps = true := fits_all fun p hp => by
      obtain ⟨i, hi, e⟩ := List.mem_iff_getElem.1 hp
      have := hf i hi
      rw [← hnl]
      rwa [show pget ps i = p by simp [pget, List.getElem?_eq_getElem hi, e]] at this
    rw [hnf] at this; cases this
  obtain ⟨pn, hpn⟩ : ∃ n, ps.length = n := ⟨_, rfl⟩
  have HPN := Lib.hid hpn
  rw [hpn] at hlen ⊢
  have HH := Lib.hid h.hd
  have HP := Lib.hid hp
  have hn16 := h.hd.len
  have C1 := Lib.hid (none_c w m mo n ca h.hd)
  clear hp hpn h hx hnf hnl
  go_enter Try.func23, Try.ntmps23
  go_wp2_with (first
    | (go_at_call 31; (with_reducible refine C1.out.mono ?_); rintro e w' ⟨rfl, rfl⟩))
  have HB := Lib.hid (Below.refl w'.heap.size w')
  go_loopw [13] (fun i wr => ∃ k : Nat, k ≤ pn ∧ i = .int .i64 k ∧ Below w'.heap.size w' wr ∧ Hid (∀ i, i < k → (pget ps i).1 + (pget ps i).2.length ≤ n)) (fun i _ => pn - (intOf i).toNat)
  case atStart => exact ⟨0, by omega, rfl, HB.out, Lib.hid fun i hi => by omega⟩
  case round =>
    obtain ⟨k, hk, rfl, hb, hF⟩ := hrel
    by_cases hlt : k < pn
    · obtain ⟨a, b, o, so, c, rfl, f0, f1, f2, f3⟩ := (HP.out.later hb) k (by rw [HPN.out]; exact hlt)
      have hbd := HBD.out k (by rw [HPN.out]; exact hlt)
      have HFk : Hid ((pget ps k).1 + (pget ps k).2.length ≤ n → ∀ i, i < k + 1 → (pget ps i).1 + (pget ps i).2.length ≤ n) := Lib.hid fun h i h1 => by
        rcases Nat.lt_or_ge i k with h3 | h3
        · exact hF.out i h3
        · obtain rfl : i = k := by omega
          exact h
      obtain ⟨at', hat⟩ : ∃ x, (pget ps k).1 = x := ⟨_, rfl⟩
      obtain ⟨le, hle⟩ : ∃ x, (pget ps k).2.length = x := ⟨_, rfl⟩
      rw [hat, hle] at hbd HFk
      rw [hat] at f1
      rw [hle] at f2
      have H1 := Lib.hid (HH.out.below hb)
      have C2 : Hid (∀ W, Below wr.heap.size wr W → Calls Try.prog 33 #[.pointer (some ⟨m, 0, none⟩), .int .u64 at', .int .i64 le] W fun e w' => e = .returned (.bool (decide (at' + le ≤ n))) ∧ w' = W) := Lib.hid (fun W hW => by
        have := there_c W m mo n ca at' le (H1.out.below hW) hbd.1 (by omega) (by omega)
        rw [thB_nat] at this
        exact this)
      clear hat hle
      have HB2 := Lib.hid hb
      clear hb hF
      by_cases hfit : at' + le ≤ n
      · have hd : decide (at' + le ≤ n) = true := decide_eq_true hfit
        rw [hd] at C2
        go_wp2_with (first
          | (go_at_call 33; (with_reducible refine (C2.out _ (below_alloc _ _)).mono ?_); rintro e w2 ⟨rfl, rfl⟩))
        go_round
        case rel => exact ⟨k + 1, by omega, by go_num, HB2.out.trans ((below_alloc _ _).mono HB2.out.size), Lib.hid (HFk.out hfit)⟩
        case measure => simp [intOf]; omega
      · have hd : decide (at' + le ≤ n) = false := decide_eq_false hfit
        rw [hd] at C2
        go_wp2_with (first
          | (go_at_call 33; (with_reducible refine (C2.out _ (below_alloc _ _)).mono ?_); rintro e w2 ⟨rfl, rfl⟩))
        go_ret
        exact ⟨rfl, HB2.out.trans ((below_alloc _ _).mono HB2.out.size)⟩
    · exact absurd (fun i hi => hF.out i (by have := HPN.out; omega)) HNF.out
theorem change_any (w : World) (B m : Nat) (v : Value) (l : List Nat) (po : Option Addr) (pc : Nat) (ps : List (Nat × List Nat)) (h : MemIs w B m v l) (hlen : ps.length ≤ 16777216)
    (hx : ∀ p ∈ ps, p.1 < 18446744073709551616 ∧ p.2.length ≤ 16777216) (hs : ∀ p ∈ ps, ∀ y ∈ p.2, y < 256) (hr : ∀ wr, w.grownBy wr v.ownBlock → PRd wr po ps) :
    Calls Try.prog 23 #[.pointer (some ⟨m, 0, none⟩), .slice po ps.length pc] w fun e w' => e = .returned (.int .i64 (chgE l ps)) ∧ MemIs w' B m v (chgX l ps) ∧ w.grownBy w' v.ownBlock := by
  unfold chgE chgX
  cases hf : fits l.length ps with
  | true =>
    rw [if_pos rfl, if_pos rfl]
    exact change_c w B m v l po pc ps h (by omega) (fun i hi => fits_yes hf _ (List.mem_of_getElem? (pget_at hi))) (fun i hi => hs _ (List.mem_of_getElem? (pget_at hi))) hr
  | false =>
    rw [if_neg (by simp), if_neg (by simp)]
    obtain ⟨mo, ca, rfl, _⟩ := Row.form h.own
    refine (change_out w B m mo _ ca l po pc ps h hlen (hr w (World.grownBy.refl _ _)) hx hf).mono ?_
    rintro e w' ⟨rfl, hb⟩
    exact ⟨rfl, h.later hb, below_grown hb _⟩
theorem rsamep_c (w : World) (ao bo : Option Addr) (c d : Nat) (ps : List (Nat × List Nat)) (h1 : PRd w ao ps) (h2 : PRd w bo ps) (hlen : ps.length ≤ 16777216) (hx : ∀ p ∈ ps, p.2.length ≤ 16777216) :
    Calls Try.prog 30 #[.slice ao ps.length c, .slice bo ps.length d] w fun e w' => e = .returned (.bool true) ∧ ∃ q, w' = w.drewN q := by
  have HBD : Hid (∀ i, i < ps.length → (pget ps i).2.length ≤ 16777216) := Lib.hid fun i hi => hx _ (List.mem_of_getElem? (pget_at hi))
  obtain ⟨n, hn⟩ : ∃ n, ps.length = n := ⟨_, rfl⟩
  have HN := Lib.hid hn
  have H1 := Lib.hid h1
  have H2 := Lib.hid h2
  rw [hn] at hlen ⊢
  clear h1 h2 hn hx
  go_enter Try.func30, Try.ntmps30
  go_wp2
  go_loopw [5] (fun i wr => ∃ k q : Nat, k ≤ n ∧ i = .int .i64 k ∧ wr = w.drewN q) (fun i _ => n - (intOf i).toNat)
  case atStart => exact ⟨0, 0, by omega, rfl, rfl⟩
  case round =>
    obtain ⟨k, q, hk, rfl, rfl⟩ := hrel
    by_cases hlt : k < n
    · obtain ⟨a, b, o, so, c2, rfl, f0, f1, f2, f3⟩ := H1.out k (by rw [HN.out]; exact hlt)
      obtain ⟨a', b', o', so', c2', rfl, g0, g1, g2, g3⟩ := H2.out k (by rw [HN.out]; exact hlt)
      have hbd := HBD.out k (by rw [HN.out]; exact hlt)
      obtain ⟨p, hp⟩ : ∃ p, pget ps k = p := ⟨_, rfl⟩
      rw [hp] at f1 f2 f3 g1 g2 g3 hbd
      obtain ⟨pa, pl⟩ := p
      simp only [] at f1 f2 f3 g1 g2 g3 hbd
      have C : Hid (∀ q, Calls Try.prog 12 #[.slice so pl.length c2, .slice so' pl.length c2'] (w.drewN q) fun e w' => e = .returned (.bool true) ∧ ∃ q, w' = w.drewN q) := Lib.hid fun q => by
        have := same_c (w.drewN q) so so' pl pl c2 c2' rfl (by omega) f3 g3
        rw [decide_eq_true rfl] at this
        refine this.mono ?_
        rintro e w' ⟨rfl, q2, rfl⟩
        exact ⟨rfl, _, World.drewN_drewN _ _ _⟩
      obtain ⟨le, hle⟩ : ∃ x, pl.length = x := ⟨_, rfl⟩
      rw [hle] at C f2 g2
      clear f3 g3 hp hle hbd
      have hne : ((pa : Int) != (pa : Int)) = false := by simp
      go_wp2_with fail
      refine wp_region_tail [_, _, _, _, _, _, _, _, _, _, _, _, _, _, _, _, _, _, _, _, _, _, _, _] [_] (fun _ w' => ∃ q, w' = w.drewN q) (by kernel_rfl) (by kernel_rfl) (by kernel_rfl) ⟨q + 1, rfl⟩ ?_
      (repeat (first | (refine sets_quiet (fun w' => ∃ q, w' = w.drewN q) (fun _ _ h => h) rfl (fun _ _ _ h => h) rfl ?_; intro K hK; go_big_quiet_op; first | go_big_quiet_on | (refine ⟨_, fun _ => rfl, ?_⟩; go_big_quiet_on)) | (refine sets_nil rfl (fun _ _ _ h => h) _ rfl _ rfl ?_; simp only [Act.put, List.setIfInBounds_toArray, List.set_cons_succ, List.set_cons_zero]) | (refine sets_skip rfl (fun _ _ _ h => h) ?_; simp only [Act.put, List.setIfInBounds_toArray, List.set_cons_succ, List.set_cons_zero])))
      refine sets_call (.bool true) rfl 12 [_, _] _ rfl Try.f12 Try.func12 (by kernel_rfl) (by kernel_rfl) [.slice so le c2, .slice so' le c2'] rfl ?_ ?_
      · rintro S w' h1 h2 ⟨q, rfl⟩
        exact (C.out q).mono fun e w'' ⟨he, hw⟩ => ⟨he, hw⟩
      simp only [Act.put, List.setIfInBounds_toArray, List.set_cons_succ, List.set_cons_zero]
      (repeat (first | (refine sets_quiet (fun w' => ∃ q, w' = w.drewN q) (fun _ _ h => h) rfl (fun _ _ _ h => h) rfl ?_; intro K hK; go_big_quiet_op; first | go_big_quiet_on | (refine ⟨_, fun _ => rfl, ?_⟩; go_big_quiet_on)) | (refine sets_nil rfl (fun _ _ _ h => h) _ rfl _ rfl ?_; simp only [Act.put, List.setIfInBounds_toArray, List.set_cons_succ, List.set_cons_zero]) | (refine sets_skip rfl (fun _ _ _ h => h) ?_; simp only [Act.put, List.setIfInBounds_toArray, List.set_cons_succ, List.set_cons_zero])))
      rintro S _ _ ⟨q, rfl⟩
      go_wp2
      go_roundw
      case rel => exact ⟨k + 1, _, by omega, by go_num, rfl⟩
      case measure => simp [intOf]; omega
    · go_wp2
      go_ret
      exact ⟨rfl, _, rfl⟩
end Go.Proofs.Ytdgdmhmagdjeoaa
