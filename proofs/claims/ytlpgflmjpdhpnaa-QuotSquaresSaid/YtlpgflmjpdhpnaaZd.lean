/- The contract of abacusref03.Sqrt. -/
import Derived.Test.YtlpgflmjpdhpnaaRows
import Derived.Test.YtlpgflmjpdhpnaaG
import Derived.Test.YtlpgflmjpdhpnaaC
import Derived.Test.YtlpgflmjpdhpnaaXg
import Derived.Test.YtlpgflmjpdhpnaaYa
import Derived.Test.YtlpgflmjpdhpnaaYc
namespace Go.Proofs.Ytlpgflmjpdhpnaa
open Go.RowKit
set_option maxHeartbeats 4000000
set_option maxRecDepth 100000
set_option linter.unusedVariables false
set_option linter.unusedSimpArgs false
set_option exponentiation.threshold 1000
theorem cmp_lesseq {a b : Nat} (h : a ≤ b) : cmpW a b ≤ (0 : Int) := by
  unfold cmpW
  by_cases h1 : a < b
  · rw [if_pos h1]; omega
  · rw [if_neg h1, if_neg (by omega)]; omega
theorem cmp_greater {a b : Nat} (h : b < a) : ¬ cmpW a b ≤ (0 : Int) := by unfold cmpW; rw [if_neg (by omega), if_pos h]; omega
def SqEnd3 (A : Nat) (w : World) (e : Ending) (w' : World) : Prop := ∃ root rest : Nat, Root A root rest ∧ root < 2 ^ 192 ∧ e = .returned (.tuple #[.agg (wv root), .agg (wv rest)]) ∧ Below w.heap.size w w'
theorem rsqrt3_c (A : Nat) (w : World) (hA : A < W384) : Calls Try.prog 21 #[.agg (wv A)] w (SqEnd3 A w) := by
  have hs3 : Hid (Ds [(w.heap.size + 3, wv 0, 24), (w.heap.size + 2, wv 0, 24), (w.heap.size + 1, wv 0, 24), (w.heap.size, wv A, 24)] w ((((w.alloc (.cells (wv A) 24)).alloc (.cells (wv 0) 24)).alloc (.cells (wv 0) 24)).alloc (.cells (wv 0) 24))) :=
    Lib.hid (((((Ds.nil w).box (wv A) 24 w.heap.size rfl).box (wv 0) 24 (w.heap.size + 1) (by simp)).box (wv 0) 24 (w.heap.size + 2) (by simp)).box (wv 0) 24 (w.heap.size + 3) (by simp))
  rw [wv_zero] at hs3
  have hst := Lib.hid (RfK.start hA)
  have hAW := Lib.hid hA
  clear hA
  go_enter Try.func21, Try.ntmps21
  go_wp2
  rw [← wv_zero] at hs3
  go_loopw [5] (fun i wr => ∃ (k root : Nat), k ≤ 192 ∧ i = .int .i64 ((k : Int) - 1) ∧ Hid (RfK A k root) ∧ Ds [(w.heap.size + 3, wv root, 24), (w.heap.size + 2, wv 0, 24), (w.heap.size + 1, wv 0, 24), (w.heap.size, wv A, 24)] w wr) (fun i _ => (intOf i + 1).toNat)
  case atStart =>
    refine ⟨192, 0, by omega, rfl, hst, ?_⟩
    rw [wv_zero]
    rw [wv_zero] at hs3
    exact hs3.out
  case round =>
    clear hs3 hst
    obtain ⟨k1, root, hk, rfl, HD, HT⟩ := hrel
    replace HT := Lib.hid HT
    have hW : (2 : Nat) ^ 192 * 2 ^ 192 = W384 := by rw [W384_two, ← Nat.pow_add]
    by_cases hk0 : k1 = 0
    · subst hk0
      have d1 := Lib.hid HD.out.done
      have d2 := Lib.hid (HD.out.bound hAW.out)
      have hss : root * root ≤ A := HD.out.2.1
      have hAl := hAW.out
      have hrW : root < W384 := by
        have := d2.out
        have h2 : (2 : Nat) ^ 192 ≤ W384 := by rw [W384_two]; exact Nat.pow_le_pow_right (by decide) (by decide)
        omega
      have hmul : mulW root root = root * root := Nat.mod_eq_of_lt (by omega)
      obtain ⟨s, hs⟩ : ∃ x, root * root = x := ⟨_, rfl⟩
      have hsub : subW A s = A - s := by
        unfold subW
        rw [show W384 - s + A = (A - s) + W384 by omega, Nat.add_mod_right, Nat.mod_eq_of_lt (by omega)]
      obtain ⟨o1, ho1⟩ : ∃ o, decide (W384 ≤ root * root) = o := ⟨_, rfl⟩
      obtain ⟨o2, ho2⟩ : ∃ o, decide (A < s) = o := ⟨_, rfl⟩
      have hsW : s < W384 := by omega
      obtain ⟨r, hr⟩ : ∃ x, A - s = x := ⟨_, rfl⟩
      have HR : Hid (A - root * root = r) := Lib.hid (by rw [hs, hr])
      rw [hs] at hmul
      rw [hr] at hsub
      have C1 : Hid (∀ W, Calls Try.prog 15 #[.agg (wv (root)), .agg (wv (root))] W fun e w' => e = .returned (.tuple #[.agg (wv s), .bool o1]) ∧ Below W.heap.size W w') := Lib.hid fun W => by have := rmul2_c root root W hrW hrW; rwa [hmul, ho1] at this
      have C2 : Hid (∀ W, Calls Try.prog 25 #[.agg (wv (A)), .agg (wv (s))] W fun e w' => e = .returned (.tuple #[.agg (wv r), .bool o2]) ∧ Below W.heap.size W w') := Lib.hid fun W => by have := rsub2_c A s W hAW.out hsW; rwa [hsub, ho2] at this
      clear hss hAl hrW hmul hsub ho1 ho2 hsW hr hs HD hW
      have g1_0 : Blk wr (w.heap.size + 3) (wv (root)) 24 := HT.out.all 0 _ rfl
      have g1_1 : Blk wr (w.heap.size + 2) (wv (0)) 24 := HT.out.all 1 _ rfl
      have g1_2 : Blk wr (w.heap.size + 1) (wv (0)) 24 := HT.out.all 2 _ rfl
      have g1_3 : Blk wr (w.heap.size) (wv (A)) 24 := HT.out.all 3 _ rfl
      go_wp2_with (first
        | (refine wpList_load_wv rfl 24 _ rfl _ rfl 24 _ _ (by with_reducible assumption) Try.underlying24 rfl (by kernel_rfl) ?_)
        | (refine wpList_load_wv_g rfl 24 _ rfl _ rfl 24 _ _ (by with_reducible assumption) Try.underlying24 rfl (by kernel_rfl) ?_)
        | (go_at_call 15; (with_reducible refine (C1.out _).mono ?_); rintro e wc172 ⟨rfl, bc172⟩; clear C1; have H273 : Hid (Ds [(w.heap.size + 3, wv (root), 24), (w.heap.size + 2, wv (0), 24), (w.heap.size + 1, wv (0), 24), (w.heap.size, wv (A), 24)] w wc172) := Lib.hid (HT.out.call bc172); clear g1_0 g1_1 g1_2 g1_3 bc172 HT; have g2_0 : Blk wc172 (w.heap.size + 3) (wv (root)) 24 := H273.out.all 0 _ rfl; have g2_1 : Blk wc172 (w.heap.size + 2) (wv (0)) 24 := H273.out.all 1 _ rfl; have g2_2 : Blk wc172 (w.heap.size + 1) (wv (0)) 24 := H273.out.all 2 _ rfl; have g2_3 : Blk wc172 (w.heap.size) (wv (A)) 24 := H273.out.all 3 _ rfl)
        | (refine wpList_store_wv rfl 24 _ _ rfl (wc172.heap.size) (s) rfl rfl 24 0 (Blk.zeroAt _ _ rfl) (by kernel_rfl) ?_; have H274 : Hid (Ds [(wc172.heap.size, wv (s), 24), (w.heap.size + 3, wv (root), 24), (w.heap.size + 2, wv (0), 24), (w.heap.size + 1, wv (0), 24), (w.heap.size, wv (A), 24)] w ((wc172.alloc (.cells #[.int .u64 0, .int .u64 0, .int .u64 0, .int .u64 0, .int .u64 0, .int .u64 0] 24)).setRow wc172.heap.size (wv (s)))) := Lib.hid ((H273.out.box #[.int .u64 0, .int .u64 0, .int .u64 0, .int .u64 0, .int .u64 0, .int .u64 0] 24 _ rfl).setRow 0 (wv (s)) _ _ _ rfl); clear g2_0 g2_1 g2_2 g2_3 H273; have g3_0 : Blk ((wc172.alloc (.cells #[.int .u64 0, .int .u64 0, .int .u64 0, .int .u64 0, .int .u64 0, .int .u64 0] 24)).setRow wc172.heap.size (wv (s))) (wc172.heap.size) (wv (s)) 24 := H274.out.all 0 _ rfl; have g3_1 : Blk ((wc172.alloc (.cells #[.int .u64 0, .int .u64 0, .int .u64 0, .int .u64 0, .int .u64 0, .int .u64 0] 24)).setRow wc172.heap.size (wv (s))) (w.heap.size + 3) (wv (root)) 24 := H274.out.all 1 _ rfl; have g3_2 : Blk ((wc172.alloc (.cells #[.int .u64 0, .int .u64 0, .int .u64 0, .int .u64 0, .int .u64 0, .int .u64 0] 24)).setRow wc172.heap.size (wv (s))) (w.heap.size + 2) (wv (0)) 24 := H274.out.all 2 _ rfl; have g3_3 : Blk ((wc172.alloc (.cells #[.int .u64 0, .int .u64 0, .int .u64 0, .int .u64 0, .int .u64 0, .int .u64 0] 24)).setRow wc172.heap.size (wv (s))) (w.heap.size + 1) (wv (0)) 24 := H274.out.all 3 _ rfl; have g3_4 : Blk ((wc172.alloc (.cells #[.int .u64 0, .int .u64 0, .int .u64 0, .int .u64 0, .int .u64 0, .int .u64 0] 24)).setRow wc172.heap.size (wv (s))) (w.heap.size) (wv (A)) 24 := H274.out.all 4 _ rfl)
        | (go_at_call 25; (with_reducible refine (C2.out _).mono ?_); rintro e wc175 ⟨rfl, bc175⟩; clear C2; have H276 : Hid (Ds [(wc172.heap.size, wv (s), 24), (w.heap.size + 3, wv (root), 24), (w.heap.size + 2, wv (0), 24), (w.heap.size + 1, wv (0), 24), (w.heap.size, wv (A), 24)] w wc175) := Lib.hid (H274.out.call bc175); clear g3_0 g3_1 g3_2 g3_3 g3_4 bc175 H274; have g4_0 : Blk wc175 (wc172.heap.size) (wv (s)) 24 := H276.out.all 0 _ rfl; have g4_1 : Blk wc175 (w.heap.size + 3) (wv (root)) 24 := H276.out.all 1 _ rfl; have g4_2 : Blk wc175 (w.heap.size + 2) (wv (0)) 24 := H276.out.all 2 _ rfl; have g4_3 : Blk wc175 (w.heap.size + 1) (wv (0)) 24 := H276.out.all 3 _ rfl; have g4_4 : Blk wc175 (w.heap.size) (wv (A)) 24 := H276.out.all 4 _ rfl)
        | (refine wpList_store_wv rfl 24 _ _ rfl (wc175.heap.size) (r) rfl rfl 24 0 (Blk.zeroAt _ _ rfl) (by kernel_rfl) ?_; have H277 : Hid (Ds [(wc175.heap.size, wv (r), 24), (wc172.heap.size, wv (s), 24), (w.heap.size + 3, wv (root), 24), (w.heap.size + 2, wv (0), 24), (w.heap.size + 1, wv (0), 24), (w.heap.size, wv (A), 24)] w ((wc175.alloc (.cells #[.int .u64 0, .int .u64 0, .int .u64 0, .int .u64 0, .int .u64 0, .int .u64 0] 24)).setRow wc175.heap.size (wv (r)))) := Lib.hid ((H276.out.box #[.int .u64 0, .int .u64 0, .int .u64 0, .int .u64 0, .int .u64 0, .int .u64 0] 24 _ rfl).setRow 0 (wv (r)) _ _ _ rfl); clear g4_0 g4_1 g4_2 g4_3 g4_4 H276; have g5_0 : Blk ((wc175.alloc (.cells #[.int .u64 0, .int .u64 0, .int .u64 0, .int .u64 0, .int .u64 0, .int .u64 0] 24)).setRow wc175.heap.size (wv (r))) (wc175.heap.size) (wv (r)) 24 := H277.out.all 0 _ rfl; have g5_1 : Blk ((wc175.alloc (.cells #[.int .u64 0, .int .u64 0, .int .u64 0, .int .u64 0, .int .u64 0, .int .u64 0] 24)).setRow wc175.heap.size (wv (r))) (wc172.heap.size) (wv (s)) 24 := H277.out.all 1 _ rfl; have g5_2 : Blk ((wc175.alloc (.cells #[.int .u64 0, .int .u64 0, .int .u64 0, .int .u64 0, .int .u64 0, .int .u64 0] 24)).setRow wc175.heap.size (wv (r))) (w.heap.size + 3) (wv (root)) 24 := H277.out.all 2 _ rfl; have g5_3 : Blk ((wc175.alloc (.cells #[.int .u64 0, .int .u64 0, .int .u64 0, .int .u64 0, .int .u64 0, .int .u64 0] 24)).setRow wc175.heap.size (wv (r))) (w.heap.size + 2) (wv (0)) 24 := H277.out.all 3 _ rfl; have g5_4 : Blk ((wc175.alloc (.cells #[.int .u64 0, .int .u64 0, .int .u64 0, .int .u64 0, .int .u64 0, .int .u64 0] 24)).setRow wc175.heap.size (wv (r))) (w.heap.size + 1) (wv (0)) 24 := H277.out.all 4 _ rfl; have g5_5 : Blk ((wc175.alloc (.cells #[.int .u64 0, .int .u64 0, .int .u64 0, .int .u64 0, .int .u64 0, .int .u64 0] 24)).setRow wc175.heap.size (wv (r))) (w.heap.size) (wv (A)) 24 := H277.out.all 5 _ rfl))
      refine wp_region_sets_lit (fun S w' => Ds [(wc175.heap.size, wv r, 24), (wc172.heap.size, wv s, 24), (w.heap.size + 3, wv root, 24), (w.heap.size + 2, wv (bif S 3 then r else 0), 24), (w.heap.size + 1, wv (bif S 2 then root else 0), 24), (w.heap.size, wv A, 24)] w w') (by kernel_rfl) (by kernel_rfl) (H277.out.drew) ?_
      obtain ⟨U, W, hW, hU⟩ := worlds (fun S w' => Ds [(wc175.heap.size, wv r, 24), (wc172.heap.size, wv s, 24), (w.heap.size + 3, wv root, 24), (w.heap.size + 2, wv (bif S 3 then r else 0), 24), (w.heap.size + 1, wv (bif S 2 then root else 0), 24), (w.heap.size, wv A, 24)] w w')
      replace hW := Lib.hid hW
      replace hU := Lib.hid hU
      repeat (refine sets_quiet (fun w' => ∃ u, w' = W u) hU.out rfl (fun _ _ _ h => h) rfl ?_; intro K hK; go_big_quiet_op; first | go_big_quiet_on | (refine ⟨_, fun _ => rfl, ?_⟩; go_big_quiet_on))
      refine sets_load_blk rfl (fun _ _ _ h => h) 24 _ rfl (w.heap.size + 3) rfl 24 (wv root) _ (fun S w' _ h3 => h3.all 2 _ rfl) Try.underlying24 rfl (by first | (rw [wv_size]; kernel_rfl) | kernel_rfl) ?_
      simp only [Act.put, List.setIfInBounds_toArray, List.set_cons_succ, List.set_cons_zero]
      repeat (refine sets_quiet (fun w' => ∃ u, w' = W u) hU.out rfl (fun _ _ _ h => h) rfl ?_; intro K hK; go_big_quiet_op; first | go_big_quiet_on | (refine ⟨_, fun _ => rfl, ?_⟩; go_big_quiet_on))
      refine sets_load_blk rfl (fun _ _ _ h => h) 24 _ rfl (wc175.heap.size) rfl 24 (wv r) _ (fun S w' _ h3 => h3.all 0 _ rfl) Try.underlying24 rfl (by first | (rw [wv_size]; kernel_rfl) | kernel_rfl) ?_
      simp only [Act.put, List.setIfInBounds_toArray, List.set_cons_succ, List.set_cons_zero]
      repeat (refine sets_quiet (fun w' => ∃ u, w' = W u) hU.out rfl (fun _ _ _ h => h) rfl ?_; intro K hK; go_big_quiet_op; first | go_big_quiet_on | (refine ⟨_, fun _ => rfl, ?_⟩; go_big_quiet_on))
      refine sets_store_blk rfl 24 _ _ rfl rfl (w.heap.size + 1) (wv root) rfl rfl 24 (by first | (rw [wv_size]; kernel_rfl) | kernel_rfl) (wv_one _) (fun S w' h1 hcl h2 h3 => ?_) ?_
      · refine ⟨⟨_, h3.all 4 _ rfl, by rw [wv_size, wv_size]⟩, ?_⟩
        exact h3.setRow 4 (wv root) _ _ _ rfl
      · skip
        repeat (refine sets_quiet (fun w' => ∃ u, w' = W u) hU.out rfl (fun _ _ _ h => h) rfl ?_; intro K hK; go_big_quiet_op; first | go_big_quiet_on | (refine ⟨_, fun _ => rfl, ?_⟩; go_big_quiet_on))
        refine sets_store_blk rfl 24 _ _ rfl rfl (w.heap.size + 2) (wv r) rfl rfl 24 (by first | (rw [wv_size]; kernel_rfl) | kernel_rfl) (wv_one _) (fun S w' h1 hcl h2 h3 => ?_) ?_
        · refine ⟨⟨_, h3.all 3 _ rfl, by rw [wv_size, wv_size]⟩, ?_⟩
          exact h3.setRow 3 (wv r) _ _ _ rfl
        · skip
          repeat (refine sets_quiet (fun w' => ∃ u, w' = W u) hU.out rfl (fun _ _ _ h => h) rfl ?_; intro K hK; go_big_quiet_op; first | go_big_quiet_on | (refine ⟨_, fun _ => rfl, ?_⟩; go_big_quiet_on))
          intro S w' hS hI
          rw [show S 2 = true from hS 2 (by decide), show S 3 = true from hS 3 (by decide), cond_true, cond_true] at hI
          clear hW hU
          go_wp2
          refine bodyPost_ret (results_cc rfl _ _ (w.heap.size + 1) (w.heap.size + 2) 24 24 _ _ _ rfl rfl (hI.all 4 _ rfl) (hI.all 3 _ rfl) Try.underlying24 rfl (by rw [wv_size]; kernel_rfl) (by rw [wv_size]; kernel_rfl)) rfl ?_
          refine ⟨root, r, ?_, d2.out, rfl, hI.le⟩
          have := d1.out
          rwa [HR.out] at this
    · obtain ⟨k, rfl⟩ : ∃ k, k1 = k + 1 := ⟨k1 - 1, by omega⟩
      have K0 : ((k + 1 : Nat) : Int) - 1 = (k : Int) := by omega
      rw [K0]
      have hki : (0 : Int) ≤ (k : Int) := by omega
      have hk192 : k < 192 := by omega
      have hrb : root.testBit k = false := HD.out.low
      have hnx := HD.out.next hAW.out hk192
      obtain ⟨s1, s2⟩ := HD.out.step
      have f1 := or_bit root k (by omega) hrb
      obtain ⟨z, hz⟩ : ∃ z, limb (root + 2 ^ k) (k / 64) = z := ⟨_, rfl⟩
      rw [hz] at f1
      have HZ : Hid ((wv root).setIfInBounds (k / 64) (.int .u64 (z : Nat)) = wv (root + 2 ^ k)) := Lib.hid (by have := wv_bit hrb; rwa [hz] at this)
      obtain ⟨t, ht⟩ : ∃ x, root + 2 ^ k = x := ⟨_, rfl⟩
      rw [ht] at HZ hnx s1 s2
      have hpp : t * t < W384 := by rw [← hW]; exact Nat.mul_lt_mul_of_lt_of_lt hnx hnx
      have htW : t < W384 := by
        have h2 : (2 : Nat) ^ 192 ≤ W384 := by rw [W384_two]; exact Nat.pow_le_pow_right (by decide) (by decide)
        omega
      have hmul : mulW t t = t * t := Nat.mod_eq_of_lt hpp
      have hov : decide (W384 ≤ t * t) = false := decide_eq_false (Nat.not_le_of_lt hpp)
      have hk6 : k / 64 < 6 := by omega
      obtain ⟨p, hp⟩ : ∃ x, t * t = x := ⟨_, rfl⟩
      rw [hp] at hmul hpp s1 s2
      obtain ⟨cm, hcm⟩ : ∃ c, cmpW p A = c := ⟨_, rfl⟩
      have C1 : Hid (∀ W, Calls Try.prog 15 #[.agg (wv (t)), .agg (wv (t))] W fun e w' => e = .returned (.tuple #[.agg (wv p), .bool false]) ∧ Below W.heap.size W w') := Lib.hid fun W => by have := rmul2_c t t W htW htW; rwa [hmul, hov] at this
      have C2 : Hid (∀ W, Calls Try.prog 35 #[.agg (wv (p)), .agg (wv (A))] W fun e w' => e = .returned (.int .i64 cm) ∧ Below W.heap.size W w') := Lib.hid fun W => by have := rcmp2_c p A W hpp hAW.out; rwa [hcm] at this
      by_cases hle : p ≤ A
      · have HN := Lib.hid (s1 hle)
        have hcg : cm ≤ 0 := by rw [← hcm]; exact cmp_lesseq hle
        clear K0 hk0 hk HD hW hrb hnx s1 s2 hz ht hpp htW hmul hov hp hcm hle
        have g1_0 : Blk wr (w.heap.size + 3) (wv (root)) 24 := HT.out.all 0 _ rfl
        have g1_1 : Blk wr (w.heap.size + 2) (wv (0)) 24 := HT.out.all 1 _ rfl
        have g1_2 : Blk wr (w.heap.size + 1) (wv (0)) 24 := HT.out.all 2 _ rfl
        have g1_3 : Blk wr (w.heap.size) (wv (A)) 24 := HT.out.all 3 _ rfl
        go_wp2_with (first
          | (refine wpList_load_wv rfl 24 _ rfl _ rfl 24 _ _ (by with_reducible assumption) Try.underlying24 rfl (by kernel_rfl) ?_)
          | (refine wpList_load_wv_g rfl 24 _ rfl _ rfl 24 _ _ (by with_reducible assumption) Try.underlying24 rfl (by kernel_rfl) ?_)
          | (refine wpList_store_wv rfl 24 _ _ rfl (wr.heap.size) (root) rfl rfl 24 0 (Blk.zeroAt _ _ rfl) (by kernel_rfl) ?_; have H278 : Hid (Ds [(wr.heap.size, wv (root), 24), (w.heap.size + 3, wv (root), 24), (w.heap.size + 2, wv (0), 24), (w.heap.size + 1, wv (0), 24), (w.heap.size, wv (A), 24)] w ((wr.alloc (.cells #[.int .u64 0, .int .u64 0, .int .u64 0, .int .u64 0, .int .u64 0, .int .u64 0] 24)).setRow wr.heap.size (wv (root)))) := Lib.hid ((HT.out.box #[.int .u64 0, .int .u64 0, .int .u64 0, .int .u64 0, .int .u64 0, .int .u64 0] 24 _ rfl).setRow 0 (wv (root)) _ _ _ rfl); clear g1_0 g1_1 g1_2 g1_3 HT; have g2_0 : Blk ((wr.alloc (.cells #[.int .u64 0, .int .u64 0, .int .u64 0, .int .u64 0, .int .u64 0, .int .u64 0] 24)).setRow wr.heap.size (wv (root))) (wr.heap.size) (wv (root)) 24 := H278.out.all 0 _ rfl; have g2_1 : Blk ((wr.alloc (.cells #[.int .u64 0, .int .u64 0, .int .u64 0, .int .u64 0, .int .u64 0, .int .u64 0] 24)).setRow wr.heap.size (wv (root))) (w.heap.size + 3) (wv (root)) 24 := H278.out.all 1 _ rfl; have g2_2 : Blk ((wr.alloc (.cells #[.int .u64 0, .int .u64 0, .int .u64 0, .int .u64 0, .int .u64 0, .int .u64 0] 24)).setRow wr.heap.size (wv (root))) (w.heap.size + 2) (wv (0)) 24 := H278.out.all 2 _ rfl; have g2_3 : Blk ((wr.alloc (.cells #[.int .u64 0, .int .u64 0, .int .u64 0, .int .u64 0, .int .u64 0, .int .u64 0] 24)).setRow wr.heap.size (wv (root))) (w.heap.size + 1) (wv (0)) 24 := H278.out.all 3 _ rfl; have g2_4 : Blk ((wr.alloc (.cells #[.int .u64 0, .int .u64 0, .int .u64 0, .int .u64 0, .int .u64 0, .int .u64 0] 24)).setRow wr.heap.size (wv (root))) (w.heap.size) (wv (A)) 24 := H278.out.all 4 _ rfl; have c279a : ((wr.alloc (.cells #[.int .u64 0, .int .u64 0, .int .u64 0, .int .u64 0, .int .u64 0, .int .u64 0] 24)).setRow wr.heap.size (wv (root))).cell? ⟨wr.heap.size, k / 64, none⟩ = some (.int .u64 (limb (root) (k / 64) : Nat)) := ((H278.out.all 0 _ rfl).cell _).trans (wv_get _ _ (by omega)); have c279b : ((wr.alloc (.cells #[.int .u64 0, .int .u64 0, .int .u64 0, .int .u64 0, .int .u64 0, .int .u64 0] 24)).setRow wr.heap.size (wv (root))).frozen? ⟨wr.heap.size, k / 64, none⟩ = false := (H278.out.all 0 _ rfl).frozen _; have H280 : Hid (Ds [(wr.heap.size, wv (t), 24), (w.heap.size + 3, wv (root), 24), (w.heap.size + 2, wv (0), 24), (w.heap.size + 1, wv (0), 24), (w.heap.size, wv (A), 24)] w (((wr.alloc (.cells #[.int .u64 0, .int .u64 0, .int .u64 0, .int .u64 0, .int .u64 0, .int .u64 0] 24)).setRow wr.heap.size (wv (root))).setCell ⟨wr.heap.size, k / 64, none⟩ (.int .u64 (z : Nat)))) := Lib.hid (by have hz := H278.out.setCell 0 (k / 64) (.int .u64 (z : Nat)) _ _ _ rfl; rw [HZ.out] at hz; exact hz); have g3_0 : Blk (((wr.alloc (.cells #[.int .u64 0, .int .u64 0, .int .u64 0, .int .u64 0, .int .u64 0, .int .u64 0] 24)).setRow wr.heap.size (wv (root))).setCell ⟨wr.heap.size, k / 64, none⟩ (.int .u64 (z : Nat))) (wr.heap.size) (wv (t)) 24 := H280.out.all 0 _ rfl; have g3_1 : Blk (((wr.alloc (.cells #[.int .u64 0, .int .u64 0, .int .u64 0, .int .u64 0, .int .u64 0, .int .u64 0] 24)).setRow wr.heap.size (wv (root))).setCell ⟨wr.heap.size, k / 64, none⟩ (.int .u64 (z : Nat))) (w.heap.size + 3) (wv (root)) 24 := H280.out.all 1 _ rfl; have g3_2 : Blk (((wr.alloc (.cells #[.int .u64 0, .int .u64 0, .int .u64 0, .int .u64 0, .int .u64 0, .int .u64 0] 24)).setRow wr.heap.size (wv (root))).setCell ⟨wr.heap.size, k / 64, none⟩ (.int .u64 (z : Nat))) (w.heap.size + 2) (wv (0)) 24 := H280.out.all 2 _ rfl; have g3_3 : Blk (((wr.alloc (.cells #[.int .u64 0, .int .u64 0, .int .u64 0, .int .u64 0, .int .u64 0, .int .u64 0] 24)).setRow wr.heap.size (wv (root))).setCell ⟨wr.heap.size, k / 64, none⟩ (.int .u64 (z : Nat))) (w.heap.size + 1) (wv (0)) 24 := H280.out.all 3 _ rfl; have g3_4 : Blk (((wr.alloc (.cells #[.int .u64 0, .int .u64 0, .int .u64 0, .int .u64 0, .int .u64 0, .int .u64 0] 24)).setRow wr.heap.size (wv (root))).setCell ⟨wr.heap.size, k / 64, none⟩ (.int .u64 (z : Nat))) (w.heap.size) (wv (A)) 24 := H280.out.all 4 _ rfl)
          | (go_at_call 15; (with_reducible refine (C1.out _).mono ?_); rintro e wc181 ⟨rfl, bc181⟩; clear C1; have H282 : Hid (Ds [(wr.heap.size, wv (t), 24), (w.heap.size + 3, wv (root), 24), (w.heap.size + 2, wv (0), 24), (w.heap.size + 1, wv (0), 24), (w.heap.size, wv (A), 24)] w wc181) := Lib.hid (H280.out.call bc181); clear g2_0 g2_1 g2_2 g2_3 g2_4 c279a c279b g3_0 g3_1 g3_2 g3_3 g3_4 bc181 H280; have g4_0 : Blk wc181 (wr.heap.size) (wv (t)) 24 := H282.out.all 0 _ rfl; have g4_1 : Blk wc181 (w.heap.size + 3) (wv (root)) 24 := H282.out.all 1 _ rfl; have g4_2 : Blk wc181 (w.heap.size + 2) (wv (0)) 24 := H282.out.all 2 _ rfl; have g4_3 : Blk wc181 (w.heap.size + 1) (wv (0)) 24 := H282.out.all 3 _ rfl; have g4_4 : Blk wc181 (w.heap.size) (wv (A)) 24 := H282.out.all 4 _ rfl)
          | (refine wpList_store_wv rfl 24 _ _ rfl (wc181.heap.size) (p) rfl rfl 24 0 (Blk.zeroAt _ _ rfl) (by kernel_rfl) ?_; have H283 : Hid (Ds [(wc181.heap.size, wv (p), 24), (wr.heap.size, wv (t), 24), (w.heap.size + 3, wv (root), 24), (w.heap.size + 2, wv (0), 24), (w.heap.size + 1, wv (0), 24), (w.heap.size, wv (A), 24)] w ((wc181.alloc (.cells #[.int .u64 0, .int .u64 0, .int .u64 0, .int .u64 0, .int .u64 0, .int .u64 0] 24)).setRow wc181.heap.size (wv (p)))) := Lib.hid ((H282.out.box #[.int .u64 0, .int .u64 0, .int .u64 0, .int .u64 0, .int .u64 0, .int .u64 0] 24 _ rfl).setRow 0 (wv (p)) _ _ _ rfl); clear g4_0 g4_1 g4_2 g4_3 g4_4 H282; have g5_0 : Blk ((wc181.alloc (.cells #[.int .u64 0, .int .u64 0, .int .u64 0, .int .u64 0, .int .u64 0, .int .u64 0] 24)).setRow wc181.heap.size (wv (p))) (wc181.heap.size) (wv (p)) 24 := H283.out.all 0 _ rfl; have g5_1 : Blk ((wc181.alloc (.cells #[.int .u64 0, .int .u64 0, .int .u64 0, .int .u64 0, .int .u64 0, .int .u64 0] 24)).setRow wc181.heap.size (wv (p))) (wr.heap.size) (wv (t)) 24 := H283.out.all 1 _ rfl; have g5_2 : Blk ((wc181.alloc (.cells #[.int .u64 0, .int .u64 0, .int .u64 0, .int .u64 0, .int .u64 0, .int .u64 0] 24)).setRow wc181.heap.size (wv (p))) (w.heap.size + 3) (wv (root)) 24 := H283.out.all 2 _ rfl; have g5_3 : Blk ((wc181.alloc (.cells #[.int .u64 0, .int .u64 0, .int .u64 0, .int .u64 0, .int .u64 0, .int .u64 0] 24)).setRow wc181.heap.size (wv (p))) (w.heap.size + 2) (wv (0)) 24 := H283.out.all 3 _ rfl; have g5_4 : Blk ((wc181.alloc (.cells #[.int .u64 0, .int .u64 0, .int .u64 0, .int .u64 0, .int .u64 0, .int .u64 0] 24)).setRow wc181.heap.size (wv (p))) (w.heap.size + 1) (wv (0)) 24 := H283.out.all 4 _ rfl; have g5_5 : Blk ((wc181.alloc (.cells #[.int .u64 0, .int .u64 0, .int .u64 0, .int .u64 0, .int .u64 0, .int .u64 0] 24)).setRow wc181.heap.size (wv (p))) (w.heap.size) (wv (A)) 24 := H283.out.all 5 _ rfl)
          | (go_at_call 35; (with_reducible refine (C2.out _).mono ?_); rintro e wc184 ⟨rfl, bc184⟩; clear C2; have H285 : Hid (Ds [(wc181.heap.size, wv (p), 24), (wr.heap.size, wv (t), 24), (w.heap.size + 3, wv (root), 24), (w.heap.size + 2, wv (0), 24), (w.heap.size + 1, wv (0), 24), (w.heap.size, wv (A), 24)] w wc184) := Lib.hid (H283.out.call bc184); clear g5_0 g5_1 g5_2 g5_3 g5_4 g5_5 bc184 H283; have g6_0 : Blk wc184 (wc181.heap.size) (wv (p)) 24 := H285.out.all 0 _ rfl; have g6_1 : Blk wc184 (wr.heap.size) (wv (t)) 24 := H285.out.all 1 _ rfl; have g6_2 : Blk wc184 (w.heap.size + 3) (wv (root)) 24 := H285.out.all 2 _ rfl; have g6_3 : Blk wc184 (w.heap.size + 2) (wv (0)) 24 := H285.out.all 3 _ rfl; have g6_4 : Blk wc184 (w.heap.size + 1) (wv (0)) 24 := H285.out.all 4 _ rfl; have g6_5 : Blk wc184 (w.heap.size) (wv (A)) 24 := H285.out.all 5 _ rfl)
          | (refine wpList_store_wv rfl 24 _ _ rfl (w.heap.size + 3) (t) rfl rfl 24 (root) (by with_reducible assumption) (by kernel_rfl) ?_; have H286 : Hid (Ds [(wc181.heap.size, wv (p), 24), (wr.heap.size, wv (t), 24), (w.heap.size + 3, wv (t), 24), (w.heap.size + 2, wv (0), 24), (w.heap.size + 1, wv (0), 24), (w.heap.size, wv (A), 24)] w (wc184.setRow (w.heap.size + 3) (wv (t)))) := Lib.hid (H285.out.setRow 2 (wv (t)) _ _ _ rfl); clear g6_0 g6_1 g6_2 g6_3 g6_4 g6_5 H285; have g7_0 : Blk (wc184.setRow (w.heap.size + 3) (wv (t))) (wc181.heap.size) (wv (p)) 24 := H286.out.all 0 _ rfl; have g7_1 : Blk (wc184.setRow (w.heap.size + 3) (wv (t))) (wr.heap.size) (wv (t)) 24 := H286.out.all 1 _ rfl; have g7_2 : Blk (wc184.setRow (w.heap.size + 3) (wv (t))) (w.heap.size + 3) (wv (t)) 24 := H286.out.all 2 _ rfl; have g7_3 : Blk (wc184.setRow (w.heap.size + 3) (wv (t))) (w.heap.size + 2) (wv (0)) 24 := H286.out.all 3 _ rfl; have g7_4 : Blk (wc184.setRow (w.heap.size + 3) (wv (t))) (w.heap.size + 1) (wv (0)) 24 := H286.out.all 4 _ rfl; have g7_5 : Blk (wc184.setRow (w.heap.size + 3) (wv (t))) (w.heap.size) (wv (A)) 24 := H286.out.all 5 _ rfl))
        go_roundw
        case rel => exact ⟨k, _, by omega, by go_num, HN, H286.out.tail.tail⟩
        case measure => (simp [intOf]; try omega)
      · have HN := Lib.hid (s2 (Nat.lt_of_not_le hle))
        have hcg : ¬ cm ≤ 0 := by rw [← hcm]; exact cmp_greater (Nat.lt_of_not_le hle)
        clear K0 hk0 hk HD hW hrb hnx s1 s2 hz ht hpp htW hmul hov hp hcm hle
        have g1_0 : Blk wr (w.heap.size + 3) (wv (root)) 24 := HT.out.all 0 _ rfl
        have g1_1 : Blk wr (w.heap.size + 2) (wv (0)) 24 := HT.out.all 1 _ rfl
        have g1_2 : Blk wr (w.heap.size + 1) (wv (0)) 24 := HT.out.all 2 _ rfl
        have g1_3 : Blk wr (w.heap.size) (wv (A)) 24 := HT.out.all 3 _ rfl
        go_wp2_with (first
          | (refine wpList_load_wv rfl 24 _ rfl _ rfl 24 _ _ (by with_reducible assumption) Try.underlying24 rfl (by kernel_rfl) ?_)
          | (refine wpList_load_wv_g rfl 24 _ rfl _ rfl 24 _ _ (by with_reducible assumption) Try.underlying24 rfl (by kernel_rfl) ?_)
          | (refine wpList_store_wv rfl 24 _ _ rfl (wr.heap.size) (root) rfl rfl 24 0 (Blk.zeroAt _ _ rfl) (by kernel_rfl) ?_; have H287 : Hid (Ds [(wr.heap.size, wv (root), 24), (w.heap.size + 3, wv (root), 24), (w.heap.size + 2, wv (0), 24), (w.heap.size + 1, wv (0), 24), (w.heap.size, wv (A), 24)] w ((wr.alloc (.cells #[.int .u64 0, .int .u64 0, .int .u64 0, .int .u64 0, .int .u64 0, .int .u64 0] 24)).setRow wr.heap.size (wv (root)))) := Lib.hid ((HT.out.box #[.int .u64 0, .int .u64 0, .int .u64 0, .int .u64 0, .int .u64 0, .int .u64 0] 24 _ rfl).setRow 0 (wv (root)) _ _ _ rfl); clear g1_0 g1_1 g1_2 g1_3 HT; have g2_0 : Blk ((wr.alloc (.cells #[.int .u64 0, .int .u64 0, .int .u64 0, .int .u64 0, .int .u64 0, .int .u64 0] 24)).setRow wr.heap.size (wv (root))) (wr.heap.size) (wv (root)) 24 := H287.out.all 0 _ rfl; have g2_1 : Blk ((wr.alloc (.cells #[.int .u64 0, .int .u64 0, .int .u64 0, .int .u64 0, .int .u64 0, .int .u64 0] 24)).setRow wr.heap.size (wv (root))) (w.heap.size + 3) (wv (root)) 24 := H287.out.all 1 _ rfl; have g2_2 : Blk ((wr.alloc (.cells #[.int .u64 0, .int .u64 0, .int .u64 0, .int .u64 0, .int .u64 0, .int .u64 0] 24)).setRow wr.heap.size (wv (root))) (w.heap.size + 2) (wv (0)) 24 := H287.out.all 2 _ rfl; have g2_3 : Blk ((wr.alloc (.cells #[.int .u64 0, .int .u64 0, .int .u64 0, .int .u64 0, .int .u64 0, .int .u64 0] 24)).setRow wr.heap.size (wv (root))) (w.heap.size + 1) (wv (0)) 24 := H287.out.all 3 _ rfl; have g2_4 : Blk ((wr.alloc (.cells #[.int .u64 0, .int .u64 0, .int .u64 0, .int .u64 0, .int .u64 0, .int .u64 0] 24)).setRow wr.heap.size (wv (root))) (w.heap.size) (wv (A)) 24 := H287.out.all 4 _ rfl; have c288a : ((wr.alloc (.cells #[.int .u64 0, .int .u64 0, .int .u64 0, .int .u64 0, .int .u64 0, .int .u64 0] 24)).setRow wr.heap.size (wv (root))).cell? ⟨wr.heap.size, k / 64, none⟩ = some (.int .u64 (limb (root) (k / 64) : Nat)) := ((H287.out.all 0 _ rfl).cell _).trans (wv_get _ _ (by omega)); have c288b : ((wr.alloc (.cells #[.int .u64 0, .int .u64 0, .int .u64 0, .int .u64 0, .int .u64 0, .int .u64 0] 24)).setRow wr.heap.size (wv (root))).frozen? ⟨wr.heap.size, k / 64, none⟩ = false := (H287.out.all 0 _ rfl).frozen _; have H289 : Hid (Ds [(wr.heap.size, wv (t), 24), (w.heap.size + 3, wv (root), 24), (w.heap.size + 2, wv (0), 24), (w.heap.size + 1, wv (0), 24), (w.heap.size, wv (A), 24)] w (((wr.alloc (.cells #[.int .u64 0, .int .u64 0, .int .u64 0, .int .u64 0, .int .u64 0, .int .u64 0] 24)).setRow wr.heap.size (wv (root))).setCell ⟨wr.heap.size, k / 64, none⟩ (.int .u64 (z : Nat)))) := Lib.hid (by have hz := H287.out.setCell 0 (k / 64) (.int .u64 (z : Nat)) _ _ _ rfl; rw [HZ.out] at hz; exact hz); have g3_0 : Blk (((wr.alloc (.cells #[.int .u64 0, .int .u64 0, .int .u64 0, .int .u64 0, .int .u64 0, .int .u64 0] 24)).setRow wr.heap.size (wv (root))).setCell ⟨wr.heap.size, k / 64, none⟩ (.int .u64 (z : Nat))) (wr.heap.size) (wv (t)) 24 := H289.out.all 0 _ rfl; have g3_1 : Blk (((wr.alloc (.cells #[.int .u64 0, .int .u64 0, .int .u64 0, .int .u64 0, .int .u64 0, .int .u64 0] 24)).setRow wr.heap.size (wv (root))).setCell ⟨wr.heap.size, k / 64, none⟩ (.int .u64 (z : Nat))) (w.heap.size + 3) (wv (root)) 24 := H289.out.all 1 _ rfl; have g3_2 : Blk (((wr.alloc (.cells #[.int .u64 0, .int .u64 0, .int .u64 0, .int .u64 0, .int .u64 0, .int .u64 0] 24)).setRow wr.heap.size (wv (root))).setCell ⟨wr.heap.size, k / 64, none⟩ (.int .u64 (z : Nat))) (w.heap.size + 2) (wv (0)) 24 := H289.out.all 2 _ rfl; have g3_3 : Blk (((wr.alloc (.cells #[.int .u64 0, .int .u64 0, .int .u64 0, .int .u64 0, .int .u64 0, .int .u64 0] 24)).setRow wr.heap.size (wv (root))).setCell ⟨wr.heap.size, k / 64, none⟩ (.int .u64 (z : Nat))) (w.heap.size + 1) (wv (0)) 24 := H289.out.all 3 _ rfl; have g3_4 : Blk (((wr.alloc (.cells #[.int .u64 0, .int .u64 0, .int .u64 0, .int .u64 0, .int .u64 0, .int .u64 0] 24)).setRow wr.heap.size (wv (root))).setCell ⟨wr.heap.size, k / 64, none⟩ (.int .u64 (z : Nat))) (w.heap.size) (wv (A)) 24 := H289.out.all 4 _ rfl)
          | (go_at_call 15; (with_reducible refine (C1.out _).mono ?_); rintro e wc190 ⟨rfl, bc190⟩; clear C1; have H291 : Hid (Ds [(wr.heap.size, wv (t), 24), (w.heap.size + 3, wv (root), 24), (w.heap.size + 2, wv (0), 24), (w.heap.size + 1, wv (0), 24), (w.heap.size, wv (A), 24)] w wc190) := Lib.hid (H289.out.call bc190); clear g2_0 g2_1 g2_2 g2_3 g2_4 c288a c288b g3_0 g3_1 g3_2 g3_3 g3_4 bc190 H289; have g4_0 : Blk wc190 (wr.heap.size) (wv (t)) 24 := H291.out.all 0 _ rfl; have g4_1 : Blk wc190 (w.heap.size + 3) (wv (root)) 24 := H291.out.all 1 _ rfl; have g4_2 : Blk wc190 (w.heap.size + 2) (wv (0)) 24 := H291.out.all 2 _ rfl; have g4_3 : Blk wc190 (w.heap.size + 1) (wv (0)) 24 := H291.out.all 3 _ rfl; have g4_4 : Blk wc190 (w.heap.size) (wv (A)) 24 := H291.out.all 4 _ rfl)
          | (refine wpList_store_wv rfl 24 _ _ rfl (wc190.heap.size) (p) rfl rfl 24 0 (Blk.zeroAt _ _ rfl) (by kernel_rfl) ?_; have H292 : Hid (Ds [(wc190.heap.size, wv (p), 24), (wr.heap.size, wv (t), 24), (w.heap.size + 3, wv (root), 24), (w.heap.size + 2, wv (0), 24), (w.heap.size + 1, wv (0), 24), (w.heap.size, wv (A), 24)] w ((wc190.alloc (.cells #[.int .u64 0, .int .u64 0, .int .u64 0, .int .u64 0, .int .u64 0, .int .u64 0] 24)).setRow wc190.heap.size (wv (p)))) := Lib.hid ((H291.out.box #[.int .u64 0, .int .u64 0, .int .u64 0, .int .u64 0, .int .u64 0, .int .u64 0] 24 _ rfl).setRow 0 (wv (p)) _ _ _ rfl); clear g4_0 g4_1 g4_2 g4_3 g4_4 H291; have g5_0 : Blk ((wc190.alloc (.cells #[.int .u64 0, .int .u64 0, .int .u64 0, .int .u64 0, .int .u64 0, .int .u64 0] 24)).setRow wc190.heap.size (wv (p))) (wc190.heap.size) (wv (p)) 24 := H292.out.all 0 _ rfl; have g5_1 : Blk ((wc190.alloc (.cells #[.int .u64 0, .int .u64 0, .int .u64 0, .int .u64 0, .int .u64 0, .int .u64 0] 24)).setRow wc190.heap.size (wv (p))) (wr.heap.size) (wv (t)) 24 := H292.out.all 1 _ rfl; have g5_2 : Blk ((wc190.alloc (.cells #[.int .u64 0, .int .u64 0, .int .u64 0, .int .u64 0, .int .u64 0, .int .u64 0] 24)).setRow wc190.heap.size (wv (p))) (w.heap.size + 3) (wv (root)) 24 := H292.out.all 2 _ rfl; have g5_3 : Blk ((wc190.alloc (.cells #[.int .u64 0, .int .u64 0, .int .u64 0, .int .u64 0, .int .u64 0, .int .u64 0] 24)).setRow wc190.heap.size (wv (p))) (w.heap.size + 2) (wv (0)) 24 := H292.out.all 3 _ rfl; have g5_4 : Blk ((wc190.alloc (.cells #[.int .u64 0, .int .u64 0, .int .u64 0, .int .u64 0, .int .u64 0, .int .u64 0] 24)).setRow wc190.heap.size (wv (p))) (w.heap.size + 1) (wv (0)) 24 := H292.out.all 4 _ rfl; have g5_5 : Blk ((wc190.alloc (.cells #[.int .u64 0, .int .u64 0, .int .u64 0, .int .u64 0, .int .u64 0, .int .u64 0] 24)).setRow wc190.heap.size (wv (p))) (w.heap.size) (wv (A)) 24 := H292.out.all 5 _ rfl)
          | (go_at_call 35; (with_reducible refine (C2.out _).mono ?_); rintro e wc193 ⟨rfl, bc193⟩; clear C2; have H294 : Hid (Ds [(wc190.heap.size, wv (p), 24), (wr.heap.size, wv (t), 24), (w.heap.size + 3, wv (root), 24), (w.heap.size + 2, wv (0), 24), (w.heap.size + 1, wv (0), 24), (w.heap.size, wv (A), 24)] w wc193) := Lib.hid (H292.out.call bc193); clear g5_0 g5_1 g5_2 g5_3 g5_4 g5_5 bc193 H292; have g6_0 : Blk wc193 (wc190.heap.size) (wv (p)) 24 := H294.out.all 0 _ rfl; have g6_1 : Blk wc193 (wr.heap.size) (wv (t)) 24 := H294.out.all 1 _ rfl; have g6_2 : Blk wc193 (w.heap.size + 3) (wv (root)) 24 := H294.out.all 2 _ rfl; have g6_3 : Blk wc193 (w.heap.size + 2) (wv (0)) 24 := H294.out.all 3 _ rfl; have g6_4 : Blk wc193 (w.heap.size + 1) (wv (0)) 24 := H294.out.all 4 _ rfl; have g6_5 : Blk wc193 (w.heap.size) (wv (A)) 24 := H294.out.all 5 _ rfl))
        go_roundw
        case rel => exact ⟨k, _, by omega, by go_num, HN, H294.out.tail.tail⟩
        case measure => (simp [intOf]; try omega)
end Go.Proofs.Ytlpgflmjpdhpnaa
