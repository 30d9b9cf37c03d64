/- The contract of quot.Sqrt. -/
import Derived.Test.YtlpgflmjpdhpnaaRows
import Derived.Test.YtlpgflmjpdhpnaaG
import Derived.Test.YtlpgflmjpdhpnaaC
import Derived.Test.YtlpgflmjpdhpnaaXa
import Derived.Test.YtlpgflmjpdhpnaaXc
import Derived.Test.YtlpgflmjpdhpnaaXg
import Derived.Test.YtlpgflmjpdhpnaaXi
import Derived.Test.YtlpgflmjpdhpnaaXj
import Derived.ScopeJumps
namespace Go.Proofs.Ytlpgflmjpdhpnaa
open Go.RowKit
set_option maxHeartbeats 4000000
set_option maxRecDepth 100000
set_option linter.unusedVariables false
set_option linter.unusedSimpArgs false
set_option exponentiation.threshold 1000
theorem cmp_less {a b : Nat} (h : a < b) : cmpW a b < (0 : Int) := by unfold cmpW; rw [if_pos h]; omega
theorem cmp_notless {a b : Nat} (h : b ≤ a) : ¬ cmpW a b < (0 : Int) := by unfold cmpW; rw [if_neg (by omega)]; split <;> omega
def SqEnd (A : Nat) (w : World) (e : Ending) (w' : World) : Prop := ∃ root rest : Nat, Root A root rest ∧ root < 2 ^ 192 ∧ e = .returned (.tuple #[.agg (wv root), .agg (wv rest)]) ∧ Below w.heap.size w w'
theorem qsqrt_c (A : Nat) (w : World) (hA : A < W384) : Calls Try.prog 20 #[.agg (wv A)] w (SqEnd A w) := by
  have hs3 : Hid (Ds [(w.heap.size + 2, wv 0, 24), (w.heap.size + 1, wv 0, 24), (w.heap.size, wv A, 24)] w (((w.alloc (.cells (wv A) 24)).alloc (.cells (wv 0) 24)).alloc (.cells (wv 0) 24))) :=
    Lib.hid ((((Ds.nil w).box (wv A) 24 w.heap.size rfl).box (wv 0) 24 (w.heap.size + 1) (by simp)).box (wv 0) 24 (w.heap.size + 2) (by simp))
  rw [wv_zero] at hs3
  have hl := (lenW_spec hA).2
  have hlt := (lenW_spec hA).1.1
  have CL : Hid (∀ W, Calls Try.prog 45 #[.agg (wv A)] W fun e w' => e = .returned (.int .i64 (lenW A : Nat)) ∧ Below W.heap.size W w') := Lib.hid fun W => wlen_c A W hA
  obtain ⟨m, hm2⟩ : ∃ m, lenW A = m := ⟨_, rfl⟩
  rw [hm2] at hl hlt CL
  obtain ⟨k0, hk0⟩ : ∃ k, (m + 1) / 2 = k := ⟨_, rfl⟩
  have K0 : ((m : Int) + 1) / 2 = (k0 : Int) := by omega
  have hk1 : k0 ≤ 192 := by omega
  have K2 : (k0 : Int) * 2 = ((2 * k0 : Nat) : Int) := by omega
  have hst : Hid (SqK A k0 0 0) := Lib.hid (SqK.start (Nat.lt_of_lt_of_le hlt (Nat.pow_le_pow_right (by decide) (by omega))))
  have hAW := Lib.hid hA
  clear hm2 hlt hk0 hA
  go_enter Try.func20, Try.ntmps20
  go_wp2
  refine wp_scope_straight ?_
  go_wp2_with (first
    | (refine wpList_load_wv rfl 24 _ rfl w.heap.size rfl 24 A _ (hs3.out.all 2 _ rfl) Try.underlying24 rfl (by kernel_rfl) ?_)
    | (go_at_call 45; (with_reducible refine (CL.out _).mono ?_); rintro e w1 ⟨rfl, b1⟩; have hs5 := Lib.hid (hs3.out.call b1); clear b1 hs3 CL))
  rw [← wv_zero] at hs5
  clear K0
  go_step3
  go_wp2
  go_loopw [4] (fun i wr => ∃ (k e root rest : Nat), k ≤ 192 ∧ i = .int .i64 (e : Nat) ∧ Hid (e = 2 * k) ∧ Hid (SqK A k root rest) ∧ Ds [(w.heap.size + 2, wv rest, 24), (w.heap.size + 1, wv root, 24), (w.heap.size, wv A, 24)] w wr) (fun i _ => (intOf i).toNat)
  case atStart => exact ⟨k0, 2 * k0, 0, 0, hk1, vint (by omega), Lib.hid rfl, hst, hs5.out⟩
  case round =>
    clear hs5 hst K2
    obtain ⟨k1, e1, root, rest, hk, rfl, HE1, HD, HT⟩ := hrel
    replace HT := Lib.hid HT
    by_cases hk0 : k1 = 0
    · subst hk0
      have he0 : e1 = 0 := HE1.out
      subst he0
      have d1 := Lib.hid HD.out.done
      have d2 := Lib.hid (HD.out.bounds hAW.out).1
      go_wp2
      refine wp_region_sets_lit (fun S w' => Ds [(w.heap.size + 2, wv rest, 24), (w.heap.size + 1, wv root, 24), (w.heap.size, wv A, 24)] w w') (by kernel_rfl) (by kernel_rfl) (HT.out.drew) ?_
      obtain ⟨U, W, hW, hU⟩ := worlds (fun S w' => Ds [(w.heap.size + 2, wv rest, 24), (w.heap.size + 1, wv root, 24), (w.heap.size, wv A, 24)] w w')
      replace hW := Lib.hid hW
      replace hU := Lib.hid hU
      repeat (refine sets_quiet (fun w' => ∃ u, w' = W u) hU.out rfl (fun _ _ _ h => h) rfl ?_; intro K hK; go_big_quiet_op; first | go_big_quiet_on | (refine ⟨_, fun _ => rfl, ?_⟩; go_big_quiet_on))
      refine sets_load_blk rfl (fun _ _ _ h => h) 24 _ rfl (w.heap.size + 1) rfl 24 (wv root) _ (fun S w' _ h3 => h3.all 1 _ rfl) Try.underlying24 rfl (by first | (rw [wv_size]; kernel_rfl) | kernel_rfl) ?_
      simp only [Act.put, List.setIfInBounds_toArray, List.set_cons_succ, List.set_cons_zero]
      repeat (refine sets_quiet (fun w' => ∃ u, w' = W u) hU.out rfl (fun _ _ _ h => h) rfl ?_; intro K hK; go_big_quiet_op; first | go_big_quiet_on | (refine ⟨_, fun _ => rfl, ?_⟩; go_big_quiet_on))
      refine sets_load_blk rfl (fun _ _ _ h => h) 24 _ rfl (w.heap.size + 2) rfl 24 (wv rest) _ (fun S w' _ h3 => h3.all 0 _ rfl) Try.underlying24 rfl (by first | (rw [wv_size]; kernel_rfl) | kernel_rfl) ?_
      simp only [Act.put, List.setIfInBounds_toArray, List.set_cons_succ, List.set_cons_zero]
      repeat (refine sets_quiet (fun w' => ∃ u, w' = W u) hU.out rfl (fun _ _ _ h => h) rfl ?_; intro K hK; go_big_quiet_op; first | go_big_quiet_on | (refine ⟨_, fun _ => rfl, ?_⟩; go_big_quiet_on))
      refine sets_store_blk rfl 24 _ _ rfl rfl (w.heap.size + 1) (wv root) rfl rfl 24 (by first | (rw [wv_size]; kernel_rfl) | kernel_rfl) (wv_one _) (fun S w' h1 hcl h2 h3 => ?_) ?_
      · exact ⟨⟨_, h3.all 1 _ rfl, rfl⟩, h3.setRow 1 _ _ _ _ rfl⟩
      · skip
        repeat (refine sets_quiet (fun w' => ∃ u, w' = W u) hU.out rfl (fun _ _ _ h => h) rfl ?_; intro K hK; go_big_quiet_op; first | go_big_quiet_on | (refine ⟨_, fun _ => rfl, ?_⟩; go_big_quiet_on))
        refine sets_store_blk rfl 24 _ _ rfl rfl (w.heap.size + 2) (wv rest) rfl rfl 24 (by first | (rw [wv_size]; kernel_rfl) | kernel_rfl) (wv_one _) (fun S w' h1 hcl h2 h3 => ?_) ?_
        · exact ⟨⟨_, h3.all 0 _ rfl, rfl⟩, h3.setRow 0 _ _ _ _ rfl⟩
        · skip
          repeat (refine sets_quiet (fun w' => ∃ u, w' = W u) hU.out rfl (fun _ _ _ h => h) rfl ?_; intro K hK; go_big_quiet_op; first | go_big_quiet_on | (refine ⟨_, fun _ => rfl, ?_⟩; go_big_quiet_on))
          intro S w' hS hI
          clear hW hU HT
          go_wp2
          simp only [Exit.noGoto]
          refine bodyPost_ret (results_cc rfl _ _ (w.heap.size + 1) (w.heap.size + 2) 24 24 _ _ _ rfl rfl (hI.all 1 _ rfl) (hI.all 0 _ rfl) Try.underlying24 rfl (by rw [wv_size]; kernel_rfl) (by rw [wv_size]; kernel_rfl)) rfl ?_
          exact ⟨root, rest, d1.out, d2.out, rfl, hI.le⟩
    · obtain ⟨k, rfl⟩ : ∃ k, k1 = k + 1 := ⟨k1 - 1, by omega⟩
      obtain ⟨e, rfl⟩ : ∃ e, e1 = e + 2 := ⟨e1 - 2, by have := HE1.out; omega⟩
      have he2 : e = 2 * k := by have := HE1.out; omega
      have HE := Lib.hid he2
      have hepos : (0 : Int) < ((e + 2 : Nat) : Int) := by omega
      have K1 : ((e + 2 : Nat) : Int) - 2 = (e : Int) := by omega
      have he384 : e < 384 := by omega
      have hkk : k ≤ 192 := by omega
      have he6 : e / 64 < 6 := by omega
      obtain ⟨b1, b2⟩ := HD.out.bounds hAW.out
      obtain ⟨s1, s2⟩ := HD.out.step
      rw [← he2] at s1 s2
      have f1 := two_bits A e (by omega)
      have f1' : bits .and .u64 (((limb A (e / 64) : Nat) : Int) / 2 ^ min (e % 64) 64) 3 = ((A / 2 ^ e % 4 : Nat) : Int) := by rw [Nat.min_eq_left (by omega)]; exact f1
      have hd4 : A / 2 ^ e % 4 < 4 := Nat.mod_lt _ (by decide)
      obtain ⟨d, hd⟩ : ∃ d, A / 2 ^ e % 4 = d := ⟨_, rfl⟩
      rw [hd] at f1 f1' s1 s2 hd4
      have hp : (2 : Nat) ^ 193 = 2 * 2 ^ 192 := Nat.pow_succ'
      have hW : (2 : Nat) ^ 200 ≤ W384 := by rw [W384_two]; exact Nat.pow_le_pow_right (by decide) (by decide)
      have hp2 : (2 : Nat) ^ 200 = 256 * 2 ^ 192 := by rw [show 200 = 8 + 192 from rfl, Nat.pow_add]
      have l1 : leftW rest 2 = 4 * rest := by rw [small_left 193 (by omega) (by decide), Nat.mul_comm]
      have l2 : leftW root 2 = 4 * root := by rw [small_left 192 b1 (by decide), Nat.mul_comm]
      have l3 : leftW root 1 = 2 * root := by rw [small_left 192 b1 (by decide), Nat.pow_one, Nat.mul_comm]
      obtain ⟨R4, hR4⟩ : ∃ x, 4 * rest = x := ⟨_, rfl⟩
      obtain ⟨t, ht⟩ : ∃ x, 4 * root = x := ⟨_, rfl⟩
      obtain ⟨r2, hr2⟩ : ∃ x, 2 * root = x := ⟨_, rfl⟩
      obtain ⟨s, hs⟩ : ∃ x, R4 + d = x := ⟨_, rfl⟩
      have hR : R4 % 2 ^ 2 = 0 := by omega
      obtain ⟨y, hy⟩ : ∃ y, limb (R4 + d) 0 = y := ⟨_, rfl⟩
      have f2 := or_lows (j := 2) hR hd4 (by decide) hy
      have HY := Lib.hid (wv_lows (j := 2) hR hd4 (by decide) hy)
      obtain ⟨yt, hyt⟩ : ∃ y, limb (t + 1) 0 = y := ⟨_, rfl⟩
      have f3 := or_low (T := t) (by omega) hyt
      have HYT := Lib.hid (wv_low (T := t) (by omega) hyt)
      obtain ⟨yr, hyr⟩ : ∃ y, limb (r2 + 1) 0 = y := ⟨_, rfl⟩
      have f4 := or_low (T := r2) (by omega) hyr
      have HYR := Lib.hid (wv_low (T := r2) (by omega) hyr)
      obtain ⟨o1, ho1⟩ : ∃ o, decide (W384 ≤ rest * 2 ^ 2) = o := ⟨_, rfl⟩
      obtain ⟨o2, ho2⟩ : ∃ o, decide (W384 ≤ root * 2 ^ 2) = o := ⟨_, rfl⟩
      obtain ⟨o3, ho3⟩ : ∃ o, decide (W384 ≤ root * 2 ^ 1) = o := ⟨_, rfl⟩
      have hsW : s < W384 := by omega
      have htW : t + 1 < W384 := by omega
      rw [hR4, ht, hs] at s1 s2
      rw [hr2] at s1 s2
      obtain ⟨cm, hcm⟩ : ∃ c, cmpW s (t + 1) = c := ⟨_, rfl⟩
      have C1 : Hid (∀ W, Calls Try.prog 47 #[.agg (wv (rest)), .int .i64 2] W fun e w' => e = .returned (.tuple #[.agg (wv R4), .bool o1]) ∧ Below W.heap.size W w') := Lib.hid fun W => by have := wleft_c rest 2 W (by omega); rwa [show clamp 2 384 = 2 from rfl, l1, hR4, ho1] at this
      have C2 : Hid (∀ W, Calls Try.prog 47 #[.agg (wv (root)), .int .i64 2] W fun e w' => e = .returned (.tuple #[.agg (wv t), .bool o2]) ∧ Below W.heap.size W w') := Lib.hid fun W => by have := wleft_c root 2 W (by omega); rwa [show clamp 2 384 = 2 from rfl, l2, ht, ho2] at this
      have C3 : Hid (∀ W, Calls Try.prog 47 #[.agg (wv (root)), .int .i64 1] W fun e w' => e = .returned (.tuple #[.agg (wv r2), .bool o3]) ∧ Below W.heap.size W w') := Lib.hid fun W => by have := wleft_c root 1 W (by omega); rwa [show clamp 1 384 = 1 from rfl, l3, hr2, ho3] at this
      have C4 : Hid (∀ W, Calls Try.prog 34 #[.agg (wv (s)), .agg (wv (t + 1))] W fun e w' => e = .returned (.int .i64 cm) ∧ Below W.heap.size W w') := Lib.hid fun W => by have := wcmp_c s (t + 1) W hsW htW; rwa [hcm] at this
      rw [hs] at HY
      by_cases hlt : s < t + 1
      · have HN := Lib.hid (s1 hlt)
        have hcg : cm < 0 := by rw [← hcm]; exact cmp_less hlt
        clear hk0 hk HE1 HD he2 b1 b2 s1 s2 hd4 hd hp hW hp2 l1 l2 l3 hR hy hyt hyr ho1 ho2 ho3 hsW htW hcm hlt hr2 hs hR4 ht
        go_wp2_with (first
          | (refine wpList_load_wv rfl 24 _ rfl (w.heap.size + 2) rfl 24 rest _ (HT.out.all 0 _ rfl) Try.underlying24 rfl (by kernel_rfl) ?_)
          | (go_at_call 47; (with_reducible refine (C1.out _).mono ?_); rintro e1 w1 ⟨rfl, b1⟩; clear C1; have H4 := Lib.hid (HT.out.call b1); clear b1 HT)
          | (refine wpList_store_wv rfl 24 _ _ rfl (w.heap.size + 2) R4 rfl rfl 24 rest (H4.out.all 0 _ rfl) (by kernel_rfl) ?_; have H5 := Lib.hid (H4.out.setRow 0 (wv R4) _ _ _ rfl); clear H4))
        simp only [Act.put]
        refine wp_region_sets_lit (fun S w' => Ds [(w.heap.size + 2, wv (bif S 13 then s else R4), 24), (w.heap.size + 1, wv root, 24), (w.heap.size, wv A, 24)] w w') (by kernel_rfl) (by kernel_rfl) (H5.out.drew) ?_
        obtain ⟨U, W, hW, hU⟩ := worlds (fun S w' => Ds [(w.heap.size + 2, wv (bif S 13 then s else R4), 24), (w.heap.size + 1, wv root, 24), (w.heap.size, wv A, 24)] w w')
        have k2 : ∀ u, (W u).cell? ⟨w.heap.size, e / 64, none⟩ = some (.int .u64 (limb A (e / 64) : Nat)) := fun u => by obtain ⟨S, h⟩ := hW u; exact ((h.all 2 _ rfl).cell _).trans (wv_get _ _ he6)
        replace hW := Lib.hid hW
        replace hU := Lib.hid hU
        repeat (refine sets_quiet (fun w' => ∃ u, w' = W u) hU.out rfl (fun _ _ _ h => h) rfl ?_; intro K hK; go_big_quiet_op; first | go_big_quiet_on | (refine ⟨_, fun _ => rfl, ?_⟩; go_big_quiet_on))
        refine sets_load1 rfl (fun _ _ _ h => h) 22 _ rfl ⟨w.heap.size + 2, 0, none⟩ rfl (.int .u64 (limb R4 0 : Nat)) (fun S w' h1 hcl h3 => ?_) _ Try.underlying22 rfl ?_
        · have hS : S 13 = false := by
            cases hS : S 13
            · rfl
            · exact absurd (hcl.chain 8 13 1 (by kernel_rfl) hS) (by rw [h1]; simp)
          rw [hS] at h3
          exact ((h3.all 0 _ rfl).cell 0).trans (wv_get _ _ (by decide))
        · simp only [Act.put, List.setIfInBounds_toArray, List.set_cons_succ, List.set_cons_zero]
          repeat (refine sets_quiet (fun w' => ∃ u, w' = W u) hU.out rfl (fun _ _ _ h => h) rfl ?_; intro K hK; go_big_quiet_op; first | go_big_quiet_on | (refine ⟨_, fun _ => rfl, ?_⟩; go_big_quiet_on))
          refine sets_store rfl 22 _ _ rfl rfl ⟨w.heap.size + 2, 0, none⟩ rfl _ rfl rfl (by kernel_rfl) ?_ ?_
          · intro S w' h1 h2 h3
            have h1' : S 13 = false := h1
            rw [h1'] at h3
            refine ⟨⟨_, ((h3.all 0 _ rfl).cell 0).trans (wv_get _ _ (by decide))⟩, (h3.all 0 _ rfl).frozen 0, ?_⟩
            have := h3.setCell 0 0 (.int .u64 (y : Nat)) _ _ _ rfl
            rw [cond_false, HY.out] at this
            exact this
          · skip
            repeat (refine sets_quiet (fun w' => ∃ u, w' = W u) hU.out rfl (fun _ _ _ h => h) rfl ?_; intro K hK; go_big_quiet_op; first | go_big_quiet_on | (refine ⟨_, fun _ => rfl, ?_⟩; go_big_quiet_on))
            intro S wq hS hI
            rw [show S 13 = true from hS 13 (by decide), cond_true] at hI
            clear k2 hW hU H5
            have H6 := Lib.hid hI
            clear hI
            have g1_0 : Blk wq (w.heap.size + 2) (wv (s)) 24 := H6.out.all 0 _ rfl
            have g1_1 : Blk wq (w.heap.size + 1) (wv (root)) 24 := H6.out.all 1 _ rfl
            have g1_2 : Blk wq (w.heap.size) (wv (A)) 24 := H6.out.all 2 _ rfl
            go_wp2_with (first
              | (refine wpList_load_wv rfl 24 _ rfl _ rfl 24 _ _ (by with_reducible assumption) Try.underlying24 rfl (by kernel_rfl) ?_)
              | (refine wpList_load_wv_g rfl 24 _ rfl _ rfl 24 _ _ (by with_reducible assumption) Try.underlying24 rfl (by kernel_rfl) ?_)
              | (go_at_call 47; (with_reducible refine (C2.out _).mono ?_); rintro e wc147 ⟨rfl, bc147⟩; clear C2; have H248 : Hid (Ds [(w.heap.size + 2, wv (s), 24), (w.heap.size + 1, wv (root), 24), (w.heap.size, wv (A), 24)] w wc147) := Lib.hid (H6.out.call bc147); clear g1_0 g1_1 g1_2 bc147 H6; have g2_0 : Blk wc147 (w.heap.size + 2) (wv (s)) 24 := H248.out.all 0 _ rfl; have g2_1 : Blk wc147 (w.heap.size + 1) (wv (root)) 24 := H248.out.all 1 _ rfl; have g2_2 : Blk wc147 (w.heap.size) (wv (A)) 24 := H248.out.all 2 _ rfl)
              | (refine wpList_store_wv rfl 24 _ _ rfl (wc147.heap.size) (t) rfl rfl 24 0 (Blk.zeroAt _ _ rfl) (by kernel_rfl) ?_; have H249 : Hid (Ds [(wc147.heap.size, wv (t), 24), (w.heap.size + 2, wv (s), 24), (w.heap.size + 1, wv (root), 24), (w.heap.size, wv (A), 24)] w ((wc147.alloc (.cells #[.int .u64 0, .int .u64 0, .int .u64 0, .int .u64 0, .int .u64 0, .int .u64 0] 24)).setRow wc147.heap.size (wv (t)))) := Lib.hid ((H248.out.box #[.int .u64 0, .int .u64 0, .int .u64 0, .int .u64 0, .int .u64 0, .int .u64 0] 24 _ rfl).setRow 0 (wv (t)) _ _ _ rfl); clear g2_0 g2_1 g2_2 H248; have g3_0 : Blk ((wc147.alloc (.cells #[.int .u64 0, .int .u64 0, .int .u64 0, .int .u64 0, .int .u64 0, .int .u64 0] 24)).setRow wc147.heap.size (wv (t))) (wc147.heap.size) (wv (t)) 24 := H249.out.all 0 _ rfl; have g3_1 : Blk ((wc147.alloc (.cells #[.int .u64 0, .int .u64 0, .int .u64 0, .int .u64 0, .int .u64 0, .int .u64 0] 24)).setRow wc147.heap.size (wv (t))) (w.heap.size + 2) (wv (s)) 24 := H249.out.all 1 _ rfl; have g3_2 : Blk ((wc147.alloc (.cells #[.int .u64 0, .int .u64 0, .int .u64 0, .int .u64 0, .int .u64 0, .int .u64 0] 24)).setRow wc147.heap.size (wv (t))) (w.heap.size + 1) (wv (root)) 24 := H249.out.all 2 _ rfl; have g3_3 : Blk ((wc147.alloc (.cells #[.int .u64 0, .int .u64 0, .int .u64 0, .int .u64 0, .int .u64 0, .int .u64 0] 24)).setRow wc147.heap.size (wv (t))) (w.heap.size) (wv (A)) 24 := H249.out.all 3 _ rfl; have c250a : ((wc147.alloc (.cells #[.int .u64 0, .int .u64 0, .int .u64 0, .int .u64 0, .int .u64 0, .int .u64 0] 24)).setRow wc147.heap.size (wv (t))).cell? ⟨wc147.heap.size, 0, none⟩ = some (.int .u64 (limb (t) (0) : Nat)) := ((H249.out.all 0 _ rfl).cell _).trans (wv_get _ _ (by omega)); have c250b : ((wc147.alloc (.cells #[.int .u64 0, .int .u64 0, .int .u64 0, .int .u64 0, .int .u64 0, .int .u64 0] 24)).setRow wc147.heap.size (wv (t))).frozen? ⟨wc147.heap.size, 0, none⟩ = false := (H249.out.all 0 _ rfl).frozen _; have H251 : Hid (Ds [(wc147.heap.size, wv (t + 1), 24), (w.heap.size + 2, wv (s), 24), (w.heap.size + 1, wv (root), 24), (w.heap.size, wv (A), 24)] w (((wc147.alloc (.cells #[.int .u64 0, .int .u64 0, .int .u64 0, .int .u64 0, .int .u64 0, .int .u64 0] 24)).setRow wc147.heap.size (wv (t))).setCell ⟨wc147.heap.size, 0, none⟩ (.int .u64 (yt : Nat)))) := Lib.hid (by have hz := H249.out.setCell 0 (0) (.int .u64 (yt : Nat)) _ _ _ rfl; rw [HYT.out] at hz; exact hz); have g4_0 : Blk (((wc147.alloc (.cells #[.int .u64 0, .int .u64 0, .int .u64 0, .int .u64 0, .int .u64 0, .int .u64 0] 24)).setRow wc147.heap.size (wv (t))).setCell ⟨wc147.heap.size, 0, none⟩ (.int .u64 (yt : Nat))) (wc147.heap.size) (wv (t + 1)) 24 := H251.out.all 0 _ rfl; have g4_1 : Blk (((wc147.alloc (.cells #[.int .u64 0, .int .u64 0, .int .u64 0, .int .u64 0, .int .u64 0, .int .u64 0] 24)).setRow wc147.heap.size (wv (t))).setCell ⟨wc147.heap.size, 0, none⟩ (.int .u64 (yt : Nat))) (w.heap.size + 2) (wv (s)) 24 := H251.out.all 1 _ rfl; have g4_2 : Blk (((wc147.alloc (.cells #[.int .u64 0, .int .u64 0, .int .u64 0, .int .u64 0, .int .u64 0, .int .u64 0] 24)).setRow wc147.heap.size (wv (t))).setCell ⟨wc147.heap.size, 0, none⟩ (.int .u64 (yt : Nat))) (w.heap.size + 1) (wv (root)) 24 := H251.out.all 2 _ rfl; have g4_3 : Blk (((wc147.alloc (.cells #[.int .u64 0, .int .u64 0, .int .u64 0, .int .u64 0, .int .u64 0, .int .u64 0] 24)).setRow wc147.heap.size (wv (t))).setCell ⟨wc147.heap.size, 0, none⟩ (.int .u64 (yt : Nat))) (w.heap.size) (wv (A)) 24 := H251.out.all 3 _ rfl)
              | (go_at_call 47; (with_reducible refine (C3.out _).mono ?_); rintro e wc152 ⟨rfl, bc152⟩; clear C3; have H253 : Hid (Ds [(wc147.heap.size, wv (t + 1), 24), (w.heap.size + 2, wv (s), 24), (w.heap.size + 1, wv (root), 24), (w.heap.size, wv (A), 24)] w wc152) := Lib.hid (H251.out.call bc152); clear g3_0 g3_1 g3_2 g3_3 c250a c250b g4_0 g4_1 g4_2 g4_3 bc152 H251; have g5_0 : Blk wc152 (wc147.heap.size) (wv (t + 1)) 24 := H253.out.all 0 _ rfl; have g5_1 : Blk wc152 (w.heap.size + 2) (wv (s)) 24 := H253.out.all 1 _ rfl; have g5_2 : Blk wc152 (w.heap.size + 1) (wv (root)) 24 := H253.out.all 2 _ rfl; have g5_3 : Blk wc152 (w.heap.size) (wv (A)) 24 := H253.out.all 3 _ rfl)
              | (refine wpList_store_wv rfl 24 _ _ rfl (w.heap.size + 1) (r2) rfl rfl 24 (root) (by with_reducible assumption) (by kernel_rfl) ?_; have H254 : Hid (Ds [(wc147.heap.size, wv (t + 1), 24), (w.heap.size + 2, wv (s), 24), (w.heap.size + 1, wv (r2), 24), (w.heap.size, wv (A), 24)] w (wc152.setRow (w.heap.size + 1) (wv (r2)))) := Lib.hid (H253.out.setRow 2 (wv (r2)) _ _ _ rfl); clear g5_0 g5_1 g5_2 g5_3 H253; have g6_0 : Blk (wc152.setRow (w.heap.size + 1) (wv (r2))) (wc147.heap.size) (wv (t + 1)) 24 := H254.out.all 0 _ rfl; have g6_1 : Blk (wc152.setRow (w.heap.size + 1) (wv (r2))) (w.heap.size + 2) (wv (s)) 24 := H254.out.all 1 _ rfl; have g6_2 : Blk (wc152.setRow (w.heap.size + 1) (wv (r2))) (w.heap.size + 1) (wv (r2)) 24 := H254.out.all 2 _ rfl; have g6_3 : Blk (wc152.setRow (w.heap.size + 1) (wv (r2))) (w.heap.size) (wv (A)) 24 := H254.out.all 3 _ rfl)
              | (go_at_call 34; (with_reducible refine (C4.out _).mono ?_); rintro e wc155 ⟨rfl, bc155⟩; clear C4; have H256 : Hid (Ds [(wc147.heap.size, wv (t + 1), 24), (w.heap.size + 2, wv (s), 24), (w.heap.size + 1, wv (r2), 24), (w.heap.size, wv (A), 24)] w wc155) := Lib.hid (H254.out.call bc155); clear g6_0 g6_1 g6_2 g6_3 bc155 H254; have g7_0 : Blk wc155 (wc147.heap.size) (wv (t + 1)) 24 := H256.out.all 0 _ rfl; have g7_1 : Blk wc155 (w.heap.size + 2) (wv (s)) 24 := H256.out.all 1 _ rfl; have g7_2 : Blk wc155 (w.heap.size + 1) (wv (r2)) 24 := H256.out.all 2 _ rfl; have g7_3 : Blk wc155 (w.heap.size) (wv (A)) 24 := H256.out.all 3 _ rfl))
            go_roundw
            case rel => exact ⟨k, e, _, _, by omega, by go_num, HE, HN, H256.out.tail⟩
            case measure => (simp [intOf]; try omega)
      · have HN0 := s2 (Nat.le_of_not_lt hlt)
        obtain ⟨d2, hd2⟩ : ∃ x, s - (t + 1) = x := ⟨_, rfl⟩
        rw [hd2] at HN0
        have HN := Lib.hid HN0
        have hcg : ¬ cm < 0 := by rw [← hcm]; exact cmp_notless (Nat.le_of_not_lt hlt)
        have hsub : subW s (t + 1) = d2 := by
          unfold subW
          rw [← hd2, show W384 - (t + 1) + s = (s - (t + 1)) + W384 by omega, Nat.add_mod_right, Nat.mod_eq_of_lt (by omega)]
        obtain ⟨un, hun⟩ : ∃ o, decide (s < t + 1) = o := ⟨_, rfl⟩
        have C5 : Hid (∀ W, Calls Try.prog 24 #[.agg (wv (s)), .agg (wv (t + 1))] W fun e w' => e = .returned (.tuple #[.agg (wv d2), .bool un]) ∧ Below W.heap.size W w') := Lib.hid fun W => by have := wsub_c s (t + 1) W hsW htW; rwa [hsub, hun] at this
        clear hk0 hk HE1 HD he2 b1 b2 s1 s2 hd4 hd hp hW hp2 l1 l2 l3 hR hy hyt hyr ho1 ho2 ho3 hsW htW hcm hlt hr2 hs hd2 HN0 hsub hun hR4 ht
        go_wp2_with (first
          | (refine wpList_load_wv rfl 24 _ rfl (w.heap.size + 2) rfl 24 rest _ (HT.out.all 0 _ rfl) Try.underlying24 rfl (by kernel_rfl) ?_)
          | (go_at_call 47; (with_reducible refine (C1.out _).mono ?_); rintro e1 w1 ⟨rfl, b1⟩; clear C1; have H4 := Lib.hid (HT.out.call b1); clear b1 HT)
          | (refine wpList_store_wv rfl 24 _ _ rfl (w.heap.size + 2) R4 rfl rfl 24 rest (H4.out.all 0 _ rfl) (by kernel_rfl) ?_; have H5 := Lib.hid (H4.out.setRow 0 (wv R4) _ _ _ rfl); clear H4))
        simp only [Act.put]
        refine wp_region_sets_lit (fun S w' => Ds [(w.heap.size + 2, wv (bif S 13 then s else R4), 24), (w.heap.size + 1, wv root, 24), (w.heap.size, wv A, 24)] w w') (by kernel_rfl) (by kernel_rfl) (H5.out.drew) ?_
        obtain ⟨U, W, hW, hU⟩ := worlds (fun S w' => Ds [(w.heap.size + 2, wv (bif S 13 then s else R4), 24), (w.heap.size + 1, wv root, 24), (w.heap.size, wv A, 24)] w w')
        have k2 : ∀ u, (W u).cell? ⟨w.heap.size, e / 64, none⟩ = some (.int .u64 (limb A (e / 64) : Nat)) := fun u => by obtain ⟨S, h⟩ := hW u; exact ((h.all 2 _ rfl).cell _).trans (wv_get _ _ he6)
        replace hW := Lib.hid hW
        replace hU := Lib.hid hU
        repeat (refine sets_quiet (fun w' => ∃ u, w' = W u) hU.out rfl (fun _ _ _ h => h) rfl ?_; intro K hK; go_big_quiet_op; first | go_big_quiet_on | (refine ⟨_, fun _ => rfl, ?_⟩; go_big_quiet_on))
        refine sets_load1 rfl (fun _ _ _ h => h) 22 _ rfl ⟨w.heap.size + 2, 0, none⟩ rfl (.int .u64 (limb R4 0 : Nat)) (fun S w' h1 hcl h3 => ?_) _ Try.underlying22 rfl ?_
        · have hS : S 13 = false := by
            cases hS : S 13
            · rfl
            · exact absurd (hcl.chain 8 13 1 (by kernel_rfl) hS) (by rw [h1]; simp)
          rw [hS] at h3
          exact ((h3.all 0 _ rfl).cell 0).trans (wv_get _ _ (by decide))
        · simp only [Act.put, List.setIfInBounds_toArray, List.set_cons_succ, List.set_cons_zero]
          repeat (refine sets_quiet (fun w' => ∃ u, w' = W u) hU.out rfl (fun _ _ _ h => h) rfl ?_; intro K hK; go_big_quiet_op; first | go_big_quiet_on | (refine ⟨_, fun _ => rfl, ?_⟩; go_big_quiet_on))
          refine sets_store rfl 22 _ _ rfl rfl ⟨w.heap.size + 2, 0, none⟩ rfl _ rfl rfl (by kernel_rfl) ?_ ?_
          · intro S w' h1 h2 h3
            have h1' : S 13 = false := h1
            rw [h1'] at h3
            refine ⟨⟨_, ((h3.all 0 _ rfl).cell 0).trans (wv_get _ _ (by decide))⟩, (h3.all 0 _ rfl).frozen 0, ?_⟩
            have := h3.setCell 0 0 (.int .u64 (y : Nat)) _ _ _ rfl
            rw [cond_false, HY.out] at this
            exact this
          · skip
            repeat (refine sets_quiet (fun w' => ∃ u, w' = W u) hU.out rfl (fun _ _ _ h => h) rfl ?_; intro K hK; go_big_quiet_op; first | go_big_quiet_on | (refine ⟨_, fun _ => rfl, ?_⟩; go_big_quiet_on))
            intro S wq hS hI
            rw [show S 13 = true from hS 13 (by decide), cond_true] at hI
            clear k2 hW hU H5
            have H6 := Lib.hid hI
            clear hI
            have g1_0 : Blk wq (w.heap.size + 2) (wv (s)) 24 := H6.out.all 0 _ rfl
            have g1_1 : Blk wq (w.heap.size + 1) (wv (root)) 24 := H6.out.all 1 _ rfl
            have g1_2 : Blk wq (w.heap.size) (wv (A)) 24 := H6.out.all 2 _ rfl
            go_wp2_with (first
              | (refine wpList_load_wv rfl 24 _ rfl _ rfl 24 _ _ (by with_reducible assumption) Try.underlying24 rfl (by kernel_rfl) ?_)
              | (refine wpList_load_wv_g rfl 24 _ rfl _ rfl 24 _ _ (by with_reducible assumption) Try.underlying24 rfl (by kernel_rfl) ?_)
              | (go_at_call 47; (with_reducible refine (C2.out _).mono ?_); rintro e wc157 ⟨rfl, bc157⟩; clear C2; have H258 : Hid (Ds [(w.heap.size + 2, wv (s), 24), (w.heap.size + 1, wv (root), 24), (w.heap.size, wv (A), 24)] w wc157) := Lib.hid (H6.out.call bc157); clear g1_0 g1_1 g1_2 bc157 H6; have g2_0 : Blk wc157 (w.heap.size + 2) (wv (s)) 24 := H258.out.all 0 _ rfl; have g2_1 : Blk wc157 (w.heap.size + 1) (wv (root)) 24 := H258.out.all 1 _ rfl; have g2_2 : Blk wc157 (w.heap.size) (wv (A)) 24 := H258.out.all 2 _ rfl)
              | (refine wpList_store_wv rfl 24 _ _ rfl (wc157.heap.size) (t) rfl rfl 24 0 (Blk.zeroAt _ _ rfl) (by kernel_rfl) ?_; have H259 : Hid (Ds [(wc157.heap.size, wv (t), 24), (w.heap.size + 2, wv (s), 24), (w.heap.size + 1, wv (root), 24), (w.heap.size, wv (A), 24)] w ((wc157.alloc (.cells #[.int .u64 0, .int .u64 0, .int .u64 0, .int .u64 0, .int .u64 0, .int .u64 0] 24)).setRow wc157.heap.size (wv (t)))) := Lib.hid ((H258.out.box #[.int .u64 0, .int .u64 0, .int .u64 0, .int .u64 0, .int .u64 0, .int .u64 0] 24 _ rfl).setRow 0 (wv (t)) _ _ _ rfl); clear g2_0 g2_1 g2_2 H258; have g3_0 : Blk ((wc157.alloc (.cells #[.int .u64 0, .int .u64 0, .int .u64 0, .int .u64 0, .int .u64 0, .int .u64 0] 24)).setRow wc157.heap.size (wv (t))) (wc157.heap.size) (wv (t)) 24 := H259.out.all 0 _ rfl; have g3_1 : Blk ((wc157.alloc (.cells #[.int .u64 0, .int .u64 0, .int .u64 0, .int .u64 0, .int .u64 0, .int .u64 0] 24)).setRow wc157.heap.size (wv (t))) (w.heap.size + 2) (wv (s)) 24 := H259.out.all 1 _ rfl; have g3_2 : Blk ((wc157.alloc (.cells #[.int .u64 0, .int .u64 0, .int .u64 0, .int .u64 0, .int .u64 0, .int .u64 0] 24)).setRow wc157.heap.size (wv (t))) (w.heap.size + 1) (wv (root)) 24 := H259.out.all 2 _ rfl; have g3_3 : Blk ((wc157.alloc (.cells #[.int .u64 0, .int .u64 0, .int .u64 0, .int .u64 0, .int .u64 0, .int .u64 0] 24)).setRow wc157.heap.size (wv (t))) (w.heap.size) (wv (A)) 24 := H259.out.all 3 _ rfl; have c260a : ((wc157.alloc (.cells #[.int .u64 0, .int .u64 0, .int .u64 0, .int .u64 0, .int .u64 0, .int .u64 0] 24)).setRow wc157.heap.size (wv (t))).cell? ⟨wc157.heap.size, 0, none⟩ = some (.int .u64 (limb (t) (0) : Nat)) := ((H259.out.all 0 _ rfl).cell _).trans (wv_get _ _ (by omega)); have c260b : ((wc157.alloc (.cells #[.int .u64 0, .int .u64 0, .int .u64 0, .int .u64 0, .int .u64 0, .int .u64 0] 24)).setRow wc157.heap.size (wv (t))).frozen? ⟨wc157.heap.size, 0, none⟩ = false := (H259.out.all 0 _ rfl).frozen _; have H261 : Hid (Ds [(wc157.heap.size, wv (t + 1), 24), (w.heap.size + 2, wv (s), 24), (w.heap.size + 1, wv (root), 24), (w.heap.size, wv (A), 24)] w (((wc157.alloc (.cells #[.int .u64 0, .int .u64 0, .int .u64 0, .int .u64 0, .int .u64 0, .int .u64 0] 24)).setRow wc157.heap.size (wv (t))).setCell ⟨wc157.heap.size, 0, none⟩ (.int .u64 (yt : Nat)))) := Lib.hid (by have hz := H259.out.setCell 0 (0) (.int .u64 (yt : Nat)) _ _ _ rfl; rw [HYT.out] at hz; exact hz); have g4_0 : Blk (((wc157.alloc (.cells #[.int .u64 0, .int .u64 0, .int .u64 0, .int .u64 0, .int .u64 0, .int .u64 0] 24)).setRow wc157.heap.size (wv (t))).setCell ⟨wc157.heap.size, 0, none⟩ (.int .u64 (yt : Nat))) (wc157.heap.size) (wv (t + 1)) 24 := H261.out.all 0 _ rfl; have g4_1 : Blk (((wc157.alloc (.cells #[.int .u64 0, .int .u64 0, .int .u64 0, .int .u64 0, .int .u64 0, .int .u64 0] 24)).setRow wc157.heap.size (wv (t))).setCell ⟨wc157.heap.size, 0, none⟩ (.int .u64 (yt : Nat))) (w.heap.size + 2) (wv (s)) 24 := H261.out.all 1 _ rfl; have g4_2 : Blk (((wc157.alloc (.cells #[.int .u64 0, .int .u64 0, .int .u64 0, .int .u64 0, .int .u64 0, .int .u64 0] 24)).setRow wc157.heap.size (wv (t))).setCell ⟨wc157.heap.size, 0, none⟩ (.int .u64 (yt : Nat))) (w.heap.size + 1) (wv (root)) 24 := H261.out.all 2 _ rfl; have g4_3 : Blk (((wc157.alloc (.cells #[.int .u64 0, .int .u64 0, .int .u64 0, .int .u64 0, .int .u64 0, .int .u64 0] 24)).setRow wc157.heap.size (wv (t))).setCell ⟨wc157.heap.size, 0, none⟩ (.int .u64 (yt : Nat))) (w.heap.size) (wv (A)) 24 := H261.out.all 3 _ rfl)
              | (go_at_call 47; (with_reducible refine (C3.out _).mono ?_); rintro e wc162 ⟨rfl, bc162⟩; clear C3; have H263 : Hid (Ds [(wc157.heap.size, wv (t + 1), 24), (w.heap.size + 2, wv (s), 24), (w.heap.size + 1, wv (root), 24), (w.heap.size, wv (A), 24)] w wc162) := Lib.hid (H261.out.call bc162); clear g3_0 g3_1 g3_2 g3_3 c260a c260b g4_0 g4_1 g4_2 g4_3 bc162 H261; have g5_0 : Blk wc162 (wc157.heap.size) (wv (t + 1)) 24 := H263.out.all 0 _ rfl; have g5_1 : Blk wc162 (w.heap.size + 2) (wv (s)) 24 := H263.out.all 1 _ rfl; have g5_2 : Blk wc162 (w.heap.size + 1) (wv (root)) 24 := H263.out.all 2 _ rfl; have g5_3 : Blk wc162 (w.heap.size) (wv (A)) 24 := H263.out.all 3 _ rfl)
              | (refine wpList_store_wv rfl 24 _ _ rfl (w.heap.size + 1) (r2) rfl rfl 24 (root) (by with_reducible assumption) (by kernel_rfl) ?_; have H264 : Hid (Ds [(wc157.heap.size, wv (t + 1), 24), (w.heap.size + 2, wv (s), 24), (w.heap.size + 1, wv (r2), 24), (w.heap.size, wv (A), 24)] w (wc162.setRow (w.heap.size + 1) (wv (r2)))) := Lib.hid (H263.out.setRow 2 (wv (r2)) _ _ _ rfl); clear g5_0 g5_1 g5_2 g5_3 H263; have g6_0 : Blk (wc162.setRow (w.heap.size + 1) (wv (r2))) (wc157.heap.size) (wv (t + 1)) 24 := H264.out.all 0 _ rfl; have g6_1 : Blk (wc162.setRow (w.heap.size + 1) (wv (r2))) (w.heap.size + 2) (wv (s)) 24 := H264.out.all 1 _ rfl; have g6_2 : Blk (wc162.setRow (w.heap.size + 1) (wv (r2))) (w.heap.size + 1) (wv (r2)) 24 := H264.out.all 2 _ rfl; have g6_3 : Blk (wc162.setRow (w.heap.size + 1) (wv (r2))) (w.heap.size) (wv (A)) 24 := H264.out.all 3 _ rfl)
              | (go_at_call 34; (with_reducible refine (C4.out _).mono ?_); rintro e wc165 ⟨rfl, bc165⟩; clear C4; have H266 : Hid (Ds [(wc157.heap.size, wv (t + 1), 24), (w.heap.size + 2, wv (s), 24), (w.heap.size + 1, wv (r2), 24), (w.heap.size, wv (A), 24)] w wc165) := Lib.hid (H264.out.call bc165); clear g6_0 g6_1 g6_2 g6_3 bc165 H264; have g7_0 : Blk wc165 (wc157.heap.size) (wv (t + 1)) 24 := H266.out.all 0 _ rfl; have g7_1 : Blk wc165 (w.heap.size + 2) (wv (s)) 24 := H266.out.all 1 _ rfl; have g7_2 : Blk wc165 (w.heap.size + 1) (wv (r2)) 24 := H266.out.all 2 _ rfl; have g7_3 : Blk wc165 (w.heap.size) (wv (A)) 24 := H266.out.all 3 _ rfl)
              | (go_at_call 24; (with_reducible refine (C5.out _).mono ?_); rintro e wc167 ⟨rfl, bc167⟩; clear C5; have H268 : Hid (Ds [(wc157.heap.size, wv (t + 1), 24), (w.heap.size + 2, wv (s), 24), (w.heap.size + 1, wv (r2), 24), (w.heap.size, wv (A), 24)] w wc167) := Lib.hid (H266.out.call bc167); clear g7_0 g7_1 g7_2 g7_3 bc167 H266; have g8_0 : Blk wc167 (wc157.heap.size) (wv (t + 1)) 24 := H268.out.all 0 _ rfl; have g8_1 : Blk wc167 (w.heap.size + 2) (wv (s)) 24 := H268.out.all 1 _ rfl; have g8_2 : Blk wc167 (w.heap.size + 1) (wv (r2)) 24 := H268.out.all 2 _ rfl; have g8_3 : Blk wc167 (w.heap.size) (wv (A)) 24 := H268.out.all 3 _ rfl)
              | (refine wpList_store_wv rfl 24 _ _ rfl (w.heap.size + 2) (d2) rfl rfl 24 (s) (by with_reducible assumption) (by kernel_rfl) ?_; have H269 : Hid (Ds [(wc157.heap.size, wv (t + 1), 24), (w.heap.size + 2, wv (d2), 24), (w.heap.size + 1, wv (r2), 24), (w.heap.size, wv (A), 24)] w (wc167.setRow (w.heap.size + 2) (wv (d2)))) := Lib.hid (H268.out.setRow 1 (wv (d2)) _ _ _ rfl); clear g8_0 g8_1 g8_2 g8_3 H268; have g9_0 : Blk (wc167.setRow (w.heap.size + 2) (wv (d2))) (wc157.heap.size) (wv (t + 1)) 24 := H269.out.all 0 _ rfl; have g9_1 : Blk (wc167.setRow (w.heap.size + 2) (wv (d2))) (w.heap.size + 2) (wv (d2)) 24 := H269.out.all 1 _ rfl; have g9_2 : Blk (wc167.setRow (w.heap.size + 2) (wv (d2))) (w.heap.size + 1) (wv (r2)) 24 := H269.out.all 2 _ rfl; have g9_3 : Blk (wc167.setRow (w.heap.size + 2) (wv (d2))) (w.heap.size) (wv (A)) 24 := H269.out.all 3 _ rfl; have c270a : (wc167.setRow (w.heap.size + 2) (wv (d2))).cell? ⟨w.heap.size + 1, 0, none⟩ = some (.int .u64 (limb (r2) (0) : Nat)) := ((H269.out.all 2 _ rfl).cell _).trans (wv_get _ _ (by omega)); have c270b : (wc167.setRow (w.heap.size + 2) (wv (d2))).frozen? ⟨w.heap.size + 1, 0, none⟩ = false := (H269.out.all 2 _ rfl).frozen _; have H271 : Hid (Ds [(wc157.heap.size, wv (t + 1), 24), (w.heap.size + 2, wv (d2), 24), (w.heap.size + 1, wv (r2 + 1), 24), (w.heap.size, wv (A), 24)] w ((wc167.setRow (w.heap.size + 2) (wv (d2))).setCell ⟨w.heap.size + 1, 0, none⟩ (.int .u64 (yr : Nat)))) := Lib.hid (by have hz := H269.out.setCell 2 (0) (.int .u64 (yr : Nat)) _ _ _ rfl; rw [HYR.out] at hz; exact hz); have g10_0 : Blk ((wc167.setRow (w.heap.size + 2) (wv (d2))).setCell ⟨w.heap.size + 1, 0, none⟩ (.int .u64 (yr : Nat))) (wc157.heap.size) (wv (t + 1)) 24 := H271.out.all 0 _ rfl; have g10_1 : Blk ((wc167.setRow (w.heap.size + 2) (wv (d2))).setCell ⟨w.heap.size + 1, 0, none⟩ (.int .u64 (yr : Nat))) (w.heap.size + 2) (wv (d2)) 24 := H271.out.all 1 _ rfl; have g10_2 : Blk ((wc167.setRow (w.heap.size + 2) (wv (d2))).setCell ⟨w.heap.size + 1, 0, none⟩ (.int .u64 (yr : Nat))) (w.heap.size + 1) (wv (r2 + 1)) 24 := H271.out.all 2 _ rfl; have g10_3 : Blk ((wc167.setRow (w.heap.size + 2) (wv (d2))).setCell ⟨w.heap.size + 1, 0, none⟩ (.int .u64 (yr : Nat))) (w.heap.size) (wv (A)) 24 := H271.out.all 3 _ rfl))
            go_roundw
            case rel => exact ⟨k, e, _, _, by omega, by go_num, HE, HN, H271.out.tail⟩
            case measure => (simp [intOf]; try omega)
end Go.Proofs.Ytlpgflmjpdhpnaa
