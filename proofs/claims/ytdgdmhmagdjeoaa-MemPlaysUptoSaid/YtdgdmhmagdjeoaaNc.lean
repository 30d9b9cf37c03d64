/- Contracts of abacusref28.Load, Store. -/
import Derived.Test.YtdgdmhmagdjeoaaNb
import Derived.Test.YtdgdmhmagdjeoaaUi
namespace Go.Proofs.Ytdgdmhmagdjeoaa
open Go.RowKit
set_option maxHeartbeats 4000000
set_option maxRecDepth 100000
set_option linter.unusedVariables false
set_option linter.unusedSimpArgs false
set_option exponentiation.threshold 1000
theorem part_one {l : List Nat} {a j : Nat} (h : a + j < l.length) : part l a (j + 1) = part l a j ++ [l[a + j]?.getD 0] := by
  unfold part
  rw [List.take_add_one, List.getElem?_drop, List.getElem?_eq_getElem h]; rfl
theorem leN_one {l : List Nat} {a j : Nat} (h : a + j < l.length) : leN (part l a (j + 1)) = leN (part l a j) + 256 ^ j * (l[a + j]?.getD 0) := by
  rw [part_one h, leN_append, part_length (by omega)]
  simp [leN]
theorem leN_bnd {l : List Nat} (hs : ∀ x ∈ l, x < 256) {a j : Nat} (h : a + j ≤ l.length) (hj : j ≤ 8) : leN (part l a j) < 18446744073709551616 := by
  refine Nat.lt_of_lt_of_le (leN_lt _ (part_small hs _ _)) ?_
  rw [part_length h]
  exact Nat.le_trans (Nat.pow_le_pow_right (by decide) hj) (by decide)
theorem load_split {l : List Nat} (hs : ∀ x ∈ l, x < 256) {a k : Nat} (h : a + k ≤ l.length) :
    leN (part l a k) / 18446744073709551616 = leN (part l (a + 8) (k - 8)) ∧ leN (part l a k) % 18446744073709551616 = leN (part l a (min k 8)) := by
  have h1 : leN (part l a (min k 8)) < 18446744073709551616 := leN_bnd hs (by omega) (by omega)
  have h2 : leN (part l a k) = leN (part l a (min k 8)) + 18446744073709551616 * leN (part l (a + 8) (k - 8)) := by
    rcases Nat.lt_or_ge 8 k with h8 | h8
    · have e : part l a k = part l a 8 ++ part l (a + 8) (k - 8) := by
        unfold part
        rw [← List.drop_drop, ← List.take_add, show 8 + (k - 8) = k by omega]
      rw [e, leN_append, part_length (by omega), show min k 8 = 8 by omega]
    · rw [show k - 8 = 0 by omega, show min k 8 = k by omega, part_zero]; rfl
  omega
theorem add_shl (lo x s : Nat) (h : lo + 2 ^ s * x < 18446744073709551616) : IntKind.u64.wrap ((lo : Int) + IntKind.u64.wrap ((x : Int) * 2 ^ s)) = ((lo + 2 ^ s * x : Nat) : Int) := by
  have e : (x : Int) * 2 ^ s = ((2 ^ s * x : Nat) : Int) := by rw [Int.natCast_mul, Int.mul_comm]; simp
  generalize 2 ^ s * x = y at *
  rw [e, wrap_lt y (by omega), show (lo : Int) + (y : Int) = ((lo + y : Nat) : Int) by omega, wrap_lt _ h]
theorem rload_w (w : World) (mo : Option Addr) (n cm a : Nat) (k : Int) (hk : widB k = false) :
    Calls Try.prog 35 #[.slice mo n cm, .int .u64 a, .int .i64 k] w fun e w' => e = .returned (.tuple #[.agg #[.int .u64 0, .int .u64 0], .int .i64 2]) ∧ Below w.heap.size w w' := by
  have C1 : Hid (∀ X, Calls Try.prog 41 #[.int .i64 k] X fun e w' => e = .returned (.bool false) ∧ w' = X) := Lib.hid fun X => by rw [← hk]; exact is_c X k
  have HB0 := Lib.hid (Blk.new w #[.int .u64 0, .int .u64 0] 35)
  have HBB := Lib.hid (below_alloc w (.cells #[.int .u64 0, .int .u64 0] 35))
  clear hk
  go_enter Try.func35, Try.ntmps35
  go_wp2_with (first
    | (go_at_call 41; (with_reducible refine (C1.out _).mono ?_); rintro e w' ⟨rfl, rfl⟩)
    | (refine wpList_store_blk rfl 35 _ _ rfl w.heap.size #[.int .u64 0, .int .u64 0] rfl rfl 35 _ HB0.out (by kernel_rfl) rfl (bits_one 0 0) ?_))
  exact bodyPost_ret (results_cell_tmp rfl _ _ w.heap.size 35 _ _ rfl (Blk.row HB0.out _) Try.underlying35 rfl (by kernel_rfl)) rfl ⟨rfl, below_setRow HBB.out (Nat.le_refl _) _⟩
theorem rload_out (w : World) (mo : Option Addr) (n cm a : Nat) (k : Int) (hw : widB k = true) (hn : n ≤ 9223372036854775807) (ha : a < 18446744073709551616) (hk : -9223372036854775808 ≤ k) (hk2 : k ≤ 9223372036854775807) (ht : thB n a k = false) :
    Calls Try.prog 35 #[.slice mo n cm, .int .u64 a, .int .i64 k] w fun e w' => e = .returned (.tuple #[.agg #[.int .u64 0, .int .u64 0], .int .i64 280]) ∧ Below w.heap.size w w' := by
  have C1 : Hid (∀ X, Calls Try.prog 41 #[.int .i64 k] X fun e w' => e = .returned (.bool true) ∧ w' = X) := Lib.hid fun X => by rw [← hw]; exact is_c X k
  have C2 : Hid (∀ X, Calls Try.prog 42 #[.slice mo n cm, .int .u64 a, .int .i64 k] X fun e w' => e = .returned (.bool false) ∧ w' = X) := Lib.hid fun X => by rw [← ht]; exact rthere_c X mo n cm a k hn ha hk hk2
  have HB0 := Lib.hid (Blk.new w #[.int .u64 0, .int .u64 0] 35)
  have HBB := Lib.hid (below_alloc w (.cells #[.int .u64 0, .int .u64 0] 35))
  clear hw ht hk hk2 ha hn
  go_enter Try.func35, Try.ntmps35
  go_wp2_with (first
    | (go_at_call 41; (with_reducible refine (C1.out _).mono ?_); rintro e w' ⟨rfl, rfl⟩)
    | (go_at_call 42; (with_reducible refine (C2.out _).mono ?_); rintro e w' ⟨rfl, rfl⟩)
    | (refine wpList_store_blk rfl 35 _ _ rfl w.heap.size #[.int .u64 0, .int .u64 0] rfl rfl 35 _ HB0.out (by kernel_rfl) rfl (bits_one 0 0) ?_))
  exact bodyPost_ret (results_cell_tmp rfl _ _ w.heap.size 35 _ _ rfl (Blk.row HB0.out _) Try.underlying35 rfl (by kernel_rfl)) rfl ⟨rfl, below_setRow HBB.out (Nat.le_refl _) _⟩
theorem rload_c (w : World) (mo : Option Addr) (cm a k : Nat) (l : List Nat) (hm : Xs w mo cm l) (hs : ∀ x ∈ l, x < 256) (hl : l.length ≤ 16777216) (hk : widB k = true) (hak : a + k ≤ l.length) :
    Calls Try.prog 35 #[.slice mo l.length cm, .int .u64 a, .int .i64 k] w fun e w' =>
      e = .returned (.tuple #[.agg #[.int .u64 (leN (part l a k) / 18446744073709551616 : Nat), .int .u64 (leN (part l a k) % 18446744073709551616 : Nat)], .int .i64 0]) ∧ Below w.heap.size w w' := by
  have hw16 : k ≤ 16 ∧ 1 ≤ k := by
    simp only [widB, Bool.or_eq_true, beq_iff_eq] at hk; omega
  obtain ⟨e1, e2⟩ := load_split hs hak
  obtain ⟨n, hn⟩ : ∃ n, l.length = n := ⟨_, rfl⟩
  have C1 : Hid (∀ X, Calls Try.prog 41 #[.int .i64 k] X fun e w' => e = .returned (.bool true) ∧ w' = X) := Lib.hid fun X => by rw [← hk]; exact is_c X k
  have C2 : Hid (∀ X, Calls Try.prog 42 #[.slice mo n cm, .int .u64 a, .int .i64 k] X fun e w' => e = .returned (.bool true) ∧ w' = X) := Lib.hid fun X => by
    have := rthere_c X mo n cm a k (by omega) (by omega) (by omega) (by omega)
    rw [thB_nat, decide_eq_true (by omega)] at this
    exact this
  have HN := Lib.hid hn
  have HRD := Lib.hid hm.rd
  have HS := Lib.hid hs
  have HE1 := Lib.hid e1
  have HE2 := Lib.hid e2
  rw [hn] at hl hak ⊢
  obtain ⟨hm16, hk1⟩ := hw16
  clear hm hs hk hn e1 e2
  go_enter Try.func35, Try.ntmps35
  go_wp2_with (first
    | (go_at_call 41; (with_reducible refine (C1.out _).mono ?_); rintro e w' ⟨rfl, rfl⟩)
    | (go_at_call 42; (with_reducible refine (C2.out _).mono ?_); rintro e w' ⟨rfl, rfl⟩))
  go_loopw [9] (fun i wr => ∃ j hi lo : Nat, j ≤ k ∧ i = .int .i64 j ∧ Blk wr (w.heap.size + 1) #[.int .u64 hi, .int .u64 lo] 35 ∧ Blk wr w.heap.size #[.int .u64 0, .int .u64 0] 35 ∧ Below w.heap.size w wr ∧
      Hid (leN (part l (a + 8) (j - 8)) = hi ∧ leN (part l a (min j 8)) = lo)) (fun i _ => k - (intOf i).toNat)
  case atStart => exact ⟨0, 0, 0, by omega, rfl, by have := Blk.new (w.alloc (.cells #[.int .u64 0, .int .u64 0] 35)) #[.int .u64 0, .int .u64 0] 35; simpa using this, (Blk.new _ _ _).alloc _, ((Below.refl _ w).alloc (Nat.le_refl _) _).alloc (by simp) _, Lib.hid (by rw [show min 0 8 = 0 from rfl, Nat.zero_sub, part_zero, part_zero]; exact ⟨rfl, rfl⟩)⟩
  case round =>
    obtain ⟨j, hi, lo, hj, rfl, hb1, hb0, hB, HP⟩ := hrel
    have c1 := hb1.cell 0
    have c2 := hb1.cell 1
    have f1 := hb1.frozen 0
    have f2 := hb1.frozen 1
    simp only [List.getElem?_toArray, List.getElem?_cons_zero, List.getElem?_cons_succ] at c1 c2
    have HB1 := Lib.hid hb1
    have HB0 := Lib.hid hb0
    have HBB := Lib.hid hB
    by_cases hlt : j < k
    · obtain ⟨e, he⟩ : ∃ e, a + j = e := ⟨_, rfl⟩
      have hen : e < n := by omega
      obtain ⟨ad, had, hcd⟩ := HRD.out e (by rw [HN.out]; exact hen)
      obtain ⟨b, hbb⟩ : ∃ b, l[e]?.getD 0 = b := ⟨_, rfl⟩
      have hb8 : b < 256 := by rw [← hbb]; exact getD_small HS.out e
      rw [hbb] at hcd
      have hcr := (hB.cell (p := ad.add e) (World.block_lt_of_cell? w _ hcd)).trans hcd
      have KE : (a : Int) + (j : Int) = (e : Int) := by omega
      obtain ⟨s, hs⟩ : ∃ s, 8 * j = s := ⟨_, rfl⟩
      have KS : (8 : Int) * (j : Int) = (s : Int) := by omega
      subst had
      have HBE := Lib.hid hbb
      have HE := Lib.hid he
      have HSS := Lib.hid hs
      clear hb1 hb0 hB hcd hbb he hs
      rcases Nat.lt_or_ge j 8 with h8 | h8
      · have hst := leN_one (l := l) (a := a) (j := j) (by rw [HN.out]; omega)
        rw [HE.out, HBE.out, show 256 ^ j = 2 ^ s by rw [← HSS.out, Nat.pow_mul]] at hst
        have hp := HP.out
        rw [show min j 8 = j by omega] at hp
        rw [hp.2] at hst
        have hbd := leN_bnd HS.out (a := a) (j := j + 1) (by rw [HN.out]; omega) (by omega)
        rw [hst] at hbd
        have K1 := Lib.hid (add_shl lo b s hbd)
        obtain ⟨lo2, hlo2⟩ : ∃ x, lo + 2 ^ s * b = x := ⟨_, rfl⟩
        rw [hlo2] at K1 hst
        have HNX : Hid (leN (part l (a + 8) (j + 1 - 8)) = hi ∧ leN (part l a (min (j + 1) 8)) = lo2) := Lib.hid ⟨by rw [show j + 1 - 8 = j - 8 by omega]; exact hp.1, by rw [show min (j + 1) 8 = j + 1 by omega]; exact hst⟩
        have d8 : decide ((j : Int) < 8) = true := decide_eq_true (by omega)
        have hs64 : s < 64 := by have := HSS.out; omega
        clear hst hp hbd hlo2 HP
        go_wp2
        refine wp_region_tail [_, _, _, _, _, _, _] [_, _] (fun _ w' => ∃ q, w' = wr.drewN q) (by kernel_rfl) (by kernel_rfl) (by kernel_rfl) ⟨1, rfl⟩ ?_
        (repeat (first | (refine sets_quiet (fun w' => ∃ q, w' = wr.drewN q) (fun _ _ h => h) rfl (fun _ _ _ h => h) rfl ?_; intro K hK; go_big_quiet_op; first | go_big_quiet_on | (refine ⟨_, fun _ => rfl, ?_⟩; go_big_quiet_on)) | (refine sets_nil rfl (fun _ _ _ h => h) _ rfl _ rfl ?_; simp only [Act.put, List.setIfInBounds_toArray, List.set_cons_succ, List.set_cons_zero]) | (refine sets_skip rfl (fun _ _ _ h => h) ?_; simp only [Act.put, List.setIfInBounds_toArray, List.set_cons_succ, List.set_cons_zero])))
        rintro S _ _ ⟨q, rfl⟩
        rw [K1.out]
        have hb2 := HB1.out.drewN q
        have f2 := hb2.frozen 1
        have c2 := hb2.cell 1
        simp only [List.getElem?_toArray, List.getElem?_cons_zero, List.getElem?_cons_succ] at c2
        clear hb2
        go_wp2
        go_roundw
        case rel => exact ⟨j + 1, hi, lo2, by omega, by go_num, (HB1.out.drewN q).set 1 _, (HB0.out.drewN q).other 1 _ (by omega), (below_drewN HBB.out).setCell (by simp) _, HNX⟩
        case measure => (simp [intOf]; try omega)
      · have hst := leN_one (l := l) (a := a + 8) (j := j - 8) (by rw [HN.out]; omega)
        obtain ⟨t, ht⟩ : ∃ t, s - 64 = t := ⟨_, rfl⟩
        have HT := Lib.hid ht
        have KT : (s : Int) - 64 = (t : Int) := by have := HSS.out; omega
        clear ht
        rw [show a + 8 + (j - 8) = e by have := HE.out; omega, HBE.out, show 256 ^ (j - 8) = 2 ^ t by rw [← HT.out, ← HSS.out, show 8 * j - 64 = 8 * (j - 8) by omega, Nat.pow_mul]] at hst
        have hp := HP.out
        rw [hp.1] at hst
        have hbd := leN_bnd HS.out (a := a + 8) (j := j - 8 + 1) (by rw [HN.out]; omega) (by omega)
        rw [hst] at hbd
        have K1 := Lib.hid (add_shl hi b t hbd)
        obtain ⟨hi2, hhi2⟩ : ∃ x, hi + 2 ^ t * b = x := ⟨_, rfl⟩
        rw [hhi2] at K1 hst
        have HNX : Hid (leN (part l (a + 8) (j + 1 - 8)) = hi2 ∧ leN (part l a (min (j + 1) 8)) = lo) := Lib.hid ⟨by rw [show j + 1 - 8 = j - 8 + 1 by omega]; exact hst, by rw [show min (j + 1) 8 = min j 8 by omega]; exact hp.2⟩
        have d8 : decide ((j : Int) < 8) = false := decide_eq_false (by omega)
        have ht64 : t < 64 := by have := HSS.out; have := HT.out; omega
        clear hst hp hbd hhi2 HP
        go_wp2
        refine wp_region_tail [_, _, _, _, _, _, _, _] [_, _] (fun _ w' => ∃ q, w' = wr.drewN q) (by kernel_rfl) (by kernel_rfl) (by kernel_rfl) ⟨1, rfl⟩ ?_
        (repeat (first | (refine sets_quiet (fun w' => ∃ q, w' = wr.drewN q) (fun _ _ h => h) rfl (fun _ _ _ h => h) rfl ?_; intro K hK; go_big_quiet_op; first | go_big_quiet_on | (refine ⟨_, fun _ => rfl, ?_⟩; go_big_quiet_on)) | (refine sets_nil rfl (fun _ _ _ h => h) _ rfl _ rfl ?_; simp only [Act.put, List.setIfInBounds_toArray, List.set_cons_succ, List.set_cons_zero]) | (refine sets_skip rfl (fun _ _ _ h => h) ?_; simp only [Act.put, List.setIfInBounds_toArray, List.set_cons_succ, List.set_cons_zero])))
        rintro S _ _ ⟨q, rfl⟩
        rw [K1.out]
        have hb2 := HB1.out.drewN q
        have f2 := hb2.frozen 0
        have c2 := hb2.cell 0
        simp only [List.getElem?_toArray, List.getElem?_cons_zero, List.getElem?_cons_succ] at c2
        clear hb2
        go_wp2
        go_roundw
        case rel => exact ⟨j + 1, hi2, lo, by omega, by go_num, (HB1.out.drewN q).set 0 _, (HB0.out.drewN q).other 0 _ (by omega), (below_drewN HBB.out).setCell (by simp) _, HNX⟩
        case measure => (simp [intOf]; try omega)
    · obtain rfl : j = k := by omega
      clear hb1 hb0 hB
      go_wp2_with (first
        | (refine wpList_load_blk rfl 35 _ rfl (w.heap.size + 1) rfl 35 _ _ HB1.out Try.underlying35 rfl (by kernel_rfl) ?_)
        | (refine wpList_store_blk rfl 35 _ _ rfl w.heap.size #[.int .u64 hi, .int .u64 lo] rfl rfl 35 _ HB0.out (by kernel_rfl) rfl (bits_one _ _) ?_))
      have hP := HP.out
      rw [HE1.out, HE2.out, hP.1, hP.2]
      exact bodyPost_ret (results_cell_tmp rfl _ _ w.heap.size 35 _ _ rfl (Blk.row HB0.out _) Try.underlying35 rfl (by kernel_rfl)) rfl ⟨rfl, below_setRow HBB.out (Nat.le_refl _) _⟩
theorem rload_any (w : World) (mo : Option Addr) (cm a : Nat) (k : Int) (l : List Nat) (hm : Xs w mo cm l) (hs : ∀ x ∈ l, x < 256) (hl : l.length ≤ 16777216) (ha : a < 18446744073709551616) (hk : -9223372036854775808 ≤ k) (hk2 : k ≤ 9223372036854775807) :
    Calls Try.prog 35 #[.slice mo l.length cm, .int .u64 a, .int .i64 k] w fun e w' =>
      e = .returned (.tuple #[.agg #[.int .u64 (LV l a k / 18446744073709551616 : Nat), .int .u64 (LV l a k % 18446744073709551616 : Nat)], .int .i64 (chk l.length a k)]) ∧ Below w.heap.size w w' := by
  by_cases h0 : chk l.length a k = 0
  · obtain ⟨hw, j, rfl, hj⟩ := chk_zero h0
    have e : LV l a j = leN (part l a j) := by
      unfold LV; rw [if_pos h0, Int.toNat_natCast]
    rw [e, h0]
    exact rload_c w mo cm a j l hm hs hl hw hj
  · have e : LV l a k = 0 := by
      unfold LV; rw [if_neg h0]
    rw [e]
    unfold chk at h0 ⊢
    by_cases hw : widB k = false
    · rw [if_pos hw]
      exact rload_w w mo _ cm a k hw
    · rw [if_neg hw] at h0 ⊢
      by_cases ht : thB l.length a k = false
      · rw [if_pos ht]
        exact rload_out w mo _ cm a k (by simpa using hw) (by omega) ha hk hk2 ht
      · rw [if_neg ht] at h0
        exact absurd rfl h0
end Go.Proofs.Ytdgdmhmagdjeoaa
