/- The contract of quot.Div. -/
import Derived.Test.YtlpgflmjpdhpnaaRows
import Derived.Test.YtlpgflmjpdhpnaaG
import Derived.Test.YtlpgflmjpdhpnaaC
import Derived.Test.YtlpgflmjpdhpnaaXa
import Derived.Test.YtlpgflmjpdhpnaaXc
import Derived.Test.YtlpgflmjpdhpnaaXg
import Derived.Test.YtlpgflmjpdhpnaaXi
import Derived.Test.YtlpgflmjpdhpnaaXj
namespace Go.Proofs.Ytlpgflmjpdhpnaa
open Go.RowKit
set_option maxHeartbeats 4000000
set_option maxRecDepth 100000
set_option linter.unusedVariables false
set_option linter.unusedSimpArgs false
set_option exponentiation.threshold 1000
def divR (A B : Nat) : Nat := if B = 0 then 0 else A % B
def divE (B : Nat) : Nat := if B = 0 then 2 else 0
theorem cmp_nonneg {a b : Nat} (h : b ≤ a) : (0 : Int) ≤ cmpW a b := by unfold cmpW; rw [if_neg (by omega)]; split <;> omega
theorem cmp_negative {a b : Nat} (h : a < b) : ¬ (0 : Int) ≤ cmpW a b := by unfold cmpW; rw [if_pos h]; omega
theorem qdiv_c (A B : Nat) (w : World) (hA : A < W384) (hB : B < W384) : Calls Try.prog 17 #[.agg (wv A), .agg (wv B)] w fun e w' => e = .returned (.tuple #[.agg (wv (A / B)), .agg (wv (divR A B)), .int .i64 (divE B : Nat)]) ∧ Below w.heap.size w w' := by
  have hm : Try.prog.eqGuardType Try.prog.depth 24 = false := by kernel_rfl
  have hs4 : Hid (Ds [(w.heap.size + 3, wv 0, 24), (w.heap.size + 2, wv 0, 24), (w.heap.size + 1, wv B, 24), (w.heap.size, wv A, 24)] w ((((w.alloc (.cells (wv A) 24)).alloc (.cells (wv B) 24)).alloc (.cells (wv 0) 24)).alloc (.cells (wv 0) 24))) :=
    Lib.hid (((((Ds.nil w).box (wv A) 24 w.heap.size rfl).box (wv B) 24 (w.heap.size + 1) (by simp)).box (wv 0) 24 (w.heap.size + 2) (by simp)).box (wv 0) 24 (w.heap.size + 3) (by simp))
  rw [wv_zero] at hs4
  have q1 : ∀ w, (binOp .eql 24 (.agg (wv B)) (.agg #[.int .u64 0, .int .u64 0, .int .u64 0, .int .u64 0, .int .u64 0, .int .u64 0])).run Try.prog w = .ok (.bool (decide (B = 0))) w := fun w => by
    rw [← wv_zero]
    exact run_eql_wv Try.underlying24 Try.underlying22 (by kernel_rfl) B 0 hB W384_pos w
  by_cases h0 : B = 0
  · rw [decide_eq_true h0] at q1
    have e1 : Hid (A / B = 0) := Lib.hid (by rw [h0, Nat.div_zero])
    have e2 : Hid (divR A B = 0) := Lib.hid (if_pos h0)
    have e3 : Hid (divE B = 2) := Lib.hid (if_pos h0)
    clear h0 hA hB
    go_enter Try.func17, Try.ntmps17
    go_wp2_with (refine wpList_load_wv rfl 24 _ rfl (w.heap.size + 1) rfl 24 B _ (hs4.out.all 2 _ rfl) Try.underlying24 rfl (by kernel_rfl) ?_)
    refine bodyPost_ret (results_cct rfl _ _ (w.heap.size + 2) (w.heap.size + 3) 24 24 _ _ _ rfl rfl (hs4.out.all 1 _ rfl) (hs4.out.all 0 _ rfl) Try.underlying24 rfl (by kernel_rfl) (by kernel_rfl)) rfl ?_
    exact ⟨ret3 (by rw [e1.out, wv_zero]) (by rw [e2.out, wv_zero]) (vint (by rw [e3.out]; rfl)), hs4.out.le⟩
  · rw [decide_eq_false h0] at q1
    have hB0 : 0 < B := Nat.pos_of_ne_zero h0
    have e2 : Hid (divR A B = A % B) := Lib.hid (if_neg h0)
    have e3 : Hid (divE B = 0) := Lib.hid (if_neg h0)
    have hl := (lenW_spec hA).2
    have hst := Lib.hid (DivK.start (B := B) (lenW_spec hA).1.1)
    have CL : Hid (∀ W, Calls Try.prog 45 #[.agg (wv A)] W fun e w' => e = .returned (.int .i64 (lenW A : Nat)) ∧ Below W.heap.size W w') := Lib.hid fun W => wlen_c A W hA
    obtain ⟨m, hm2⟩ : ∃ m, lenW A = m := ⟨_, rfl⟩
    rw [hm2] at hl hst CL
    have hBW := Lib.hid hB
    have hAW := Lib.hid hA
    have hb0' := Lib.hid hB0
    clear hm2 h0 hA hB hB0
    go_enter Try.func17, Try.ntmps17
    go_wp2_with (first
      | (refine wpList_load_wv rfl 24 _ rfl (w.heap.size + 1) rfl 24 B _ (hs4.out.all 2 _ rfl) Try.underlying24 rfl (by kernel_rfl) ?_)
      | (refine wpList_load_wv rfl 24 _ rfl w.heap.size rfl 24 A _ (hs4.out.all 3 _ rfl) Try.underlying24 rfl (by kernel_rfl) ?_)
      | (go_at_call 45; (with_reducible refine (CL.out _).mono ?_); rintro e w1 ⟨rfl, b1⟩; have hs5 := Lib.hid (hs4.out.call b1); clear b1 hs4 CL))
    rw [← wv_zero] at hs5
    go_loopw [7] (fun i wr => ∃ (k q r : Nat), k ≤ 384 ∧ i = .int .i64 ((k : Int) - 1) ∧ Hid (DivK A B k q r) ∧ Ds [(w.heap.size + 3, wv r, 24), (w.heap.size + 2, wv q, 24), (w.heap.size + 1, wv B, 24), (w.heap.size, wv A, 24)] w wr) (fun i _ => (intOf i + 1).toNat)
    case atStart => exact ⟨m, 0, 0, hl, rfl, hst, hs5.out⟩
    case round =>
      clear hs5 hst
      obtain ⟨k1, q, r, hk, rfl, HD, HT⟩ := hrel
      replace HT := Lib.hid HT
      by_cases hk0 : k1 = 0
      · subst hk0
        obtain ⟨d1, d2⟩ := HD.out.done
        have e1 := Lib.hid d1
        have e4 := Lib.hid d2
        clear d1 d2
        go_wp2
        refine wp_region_sets_lit (fun S w' => Ds [(w.heap.size + 3, wv r, 24), (w.heap.size + 2, wv q, 24), (w.heap.size + 1, wv B, 24), (w.heap.size, wv A, 24)] w w') (by kernel_rfl) (by kernel_rfl) (HT.out.drew) ?_
        obtain ⟨U, W, hW, hU⟩ := worlds (fun S w' => Ds [(w.heap.size + 3, wv r, 24), (w.heap.size + 2, wv q, 24), (w.heap.size + 1, wv B, 24), (w.heap.size, wv A, 24)] w w')
        replace hW := Lib.hid hW
        replace hU := Lib.hid hU
        repeat (refine sets_quiet (fun w' => ∃ u, w' = W u) hU.out rfl (fun _ _ _ h => h) rfl ?_; intro K hK; go_big_quiet_op; first | go_big_quiet_on | (refine ⟨_, fun _ => rfl, ?_⟩; go_big_quiet_on))
        refine sets_load_blk rfl (fun _ _ _ h => h) 24 _ rfl (w.heap.size + 2) rfl 24 (wv (q)) _ (fun S w' _ h3 => h3.all 1 _ rfl) Try.underlying24 rfl (by first | (rw [wv_size]; kernel_rfl) | kernel_rfl) ?_
        simp only [Act.put, List.setIfInBounds_toArray, List.set_cons_succ, List.set_cons_zero]
        repeat (refine sets_quiet (fun w' => ∃ u, w' = W u) hU.out rfl (fun _ _ _ h => h) rfl ?_; intro K hK; go_big_quiet_op; first | go_big_quiet_on | (refine ⟨_, fun _ => rfl, ?_⟩; go_big_quiet_on))
        refine sets_load_blk rfl (fun _ _ _ h => h) 24 _ rfl (w.heap.size + 3) rfl 24 (wv (r)) _ (fun S w' _ h3 => h3.all 0 _ rfl) Try.underlying24 rfl (by first | (rw [wv_size]; kernel_rfl) | kernel_rfl) ?_
        simp only [Act.put, List.setIfInBounds_toArray, List.set_cons_succ, List.set_cons_zero]
        repeat (refine sets_quiet (fun w' => ∃ u, w' = W u) hU.out rfl (fun _ _ _ h => h) rfl ?_; intro K hK; go_big_quiet_op; first | go_big_quiet_on | (refine ⟨_, fun _ => rfl, ?_⟩; go_big_quiet_on))
        refine sets_store_blk rfl 24 _ _ rfl rfl (w.heap.size + 2) (wv (q)) rfl rfl 24 (by first | (rw [wv_size]; kernel_rfl) | kernel_rfl) (wv_one _) (fun S w' h1 hcl h2 h3 => ?_) ?_
        · exact ⟨⟨_, h3.all 1 _ rfl, rfl⟩, h3.setRow 1 _ _ _ _ rfl⟩
        · skip
          repeat (refine sets_quiet (fun w' => ∃ u, w' = W u) hU.out rfl (fun _ _ _ h => h) rfl ?_; intro K hK; go_big_quiet_op; first | go_big_quiet_on | (refine ⟨_, fun _ => rfl, ?_⟩; go_big_quiet_on))
          refine sets_store_blk rfl 24 _ _ rfl rfl (w.heap.size + 3) (wv (r)) rfl rfl 24 (by first | (rw [wv_size]; kernel_rfl) | kernel_rfl) (wv_one _) (fun S w' h1 hcl h2 h3 => ?_) ?_
          · exact ⟨⟨_, h3.all 0 _ rfl, rfl⟩, h3.setRow 0 _ _ _ _ rfl⟩
          · skip
            repeat (refine sets_quiet (fun w' => ∃ u, w' = W u) hU.out rfl (fun _ _ _ h => h) rfl ?_; intro K hK; go_big_quiet_op; first | go_big_quiet_on | (refine ⟨_, fun _ => rfl, ?_⟩; go_big_quiet_on))
            intro S w' hS hI
            clear hW hU HT
            go_wp2
            refine bodyPost_ret (results_cct rfl _ _ (w.heap.size + 2) (w.heap.size + 3) 24 24 _ _ _ rfl rfl (hI.all 1 _ rfl) (hI.all 0 _ rfl) Try.underlying24 rfl (by rw [wv_size]; kernel_rfl) (by rw [wv_size]; kernel_rfl)) rfl ?_
            exact ⟨ret3 (by rw [e1.out]) (by rw [e4.out, e2.out]) (vint (by rw [e3.out]; rfl)), hI.le⟩
      · obtain ⟨k, rfl⟩ : ∃ k, k1 = k + 1 := ⟨k1 - 1, by omega⟩
        have K0 : ((k + 1 : Nat) : Int) - 1 = (k : Int) := by omega
        rw [K0]
        have hk384 : k < 384 := by omega
        have hki : (0 : Int) ≤ (k : Int) := by omega
        have hb0 := hb0'.out
        have hrB := HD.out.lt hb0
        have hrW : r < W384 := Nat.lt_trans hrB hBW.out
        have hqW : q < W384 := Nat.lt_of_le_of_lt HD.out.le hAW.out
        have hqb : q.testBit k = false := HD.out.low
        obtain ⟨s1, s2⟩ := HD.out.step hb0
        obtain ⟨lo, hlo⟩ : ∃ o, decide (W384 ≤ r * 2 ^ 1) = o := ⟨_, rfl⟩
        obtain ⟨l, hl⟩ : ∃ l, leftW r 1 = l := ⟨_, rfl⟩
        have htw := twice_word hrW (Bool.toNat_le (A.testBit k))
        rw [hl] at htw
        have htk := take_word (n := 2 * r + (A.testBit k).toNat) hBW.out hb0 (by have := Bool.toNat_le (A.testBit k); omega)
        rw [← htw.1] at htk
        have htb := top_bit hrW
        have hl2 := htw.2
        have f1 := or_bit q k hk384 hqb
        obtain ⟨z, hz⟩ : ∃ z, limb (q + 2 ^ k) (k / 64) = z := ⟨_, rfl⟩
        rw [hz] at f1
        have HZ : Hid ((wv q).setIfInBounds (k / 64) (.int .u64 (z : Nat)) = wv (q + 2 ^ k)) := Lib.hid (by have := wv_bit hqb; rwa [hz] at this)
        obtain ⟨y, hy⟩ : ∃ y, limb (l + 1) 0 = y := ⟨_, rfl⟩
        have f2 := or_low hl2 hy
        have HY := Lib.hid (wv_low hl2 hy)
        have hk6 : k / 64 < 6 := by omega
        have hEven : W384 % 2 = 0 := (congrArg (· % 2) (W384_two.trans Nat.pow_succ')).trans (Nat.mul_mod_right 2 _)
        clear K0 hk0 hk hz hy
        cases hx : A.testBit k with
        | true =>
          rw [hx] at s1 s2 htw htk
          simp only [Bool.toNat_true] at s1 s2 htw htk
          by_cases ht : W384 ≤ 2 * r
          · have htp : bitW r 383 = true := by rw [show bitW r 383 = r.testBit 383 from bitW_nat r 383 (by decide), htb, decide_eq_true ht]
            have hle : B ≤ 2 * r + 1 := htk.1.1 (.inl (by omega))
            have hsub := htk.2 hle
            have hsW : (l + 1) < W384 := by rw [htw.1]; exact Nat.mod_lt _ W384_pos
            have HN := Lib.hid (s2 hle)
            obtain ⟨d, hd⟩ : ∃ d, 2 * r + 1 - B = d := ⟨_, rfl⟩
            rw [hd] at HN hsub
            obtain ⟨un, hun⟩ : ∃ o, decide ((l + 1) < B) = o := ⟨_, rfl⟩
            have C1 : Hid (∀ W, Calls Try.prog 46 #[.agg (wv (r)), .int .i64 383] W fun e w' => e = .returned (.bool true) ∧ Below W.heap.size W w') := Lib.hid fun W => by have := wbit_c r 383 W; rwa [show bitW r 383 = true from htp] at this
            have C2 : Hid (∀ W, Calls Try.prog 47 #[.agg (wv (r)), .int .i64 1] W fun e w' => e = .returned (.tuple #[.agg (wv l), .bool lo]) ∧ Below W.heap.size W w') := Lib.hid fun W => by have := wleft_c r 1 W hrW; rwa [show clamp 1 384 = 1 from rfl, hl, hlo] at this
            have C3 : Hid (∀ W, Calls Try.prog 46 #[.agg (wv (A)), .int .i64 (k : Nat)] W fun e w' => e = .returned (.bool true) ∧ Below W.heap.size W w') := Lib.hid fun W => by have := wbit_c A k W; rwa [bitW_nat A k (by omega), hx] at this
            have C5 : Hid (∀ W, Calls Try.prog 24 #[.agg (wv ((l + 1))), .agg (wv (B))] W fun e w' => e = .returned (.tuple #[.agg (wv d), .bool un]) ∧ Below W.heap.size W w') := Lib.hid fun W => by have := wsub_c (l + 1) B W hsW hBW.out; rwa [hsub, hun] at this
            clear hl hlo htp hx hsW hrW hqb hb0 hrB hqW s1 s2 htw htk htb hl2 ht hle HD hEven hsub hun hd
            have g1_0 : Blk wr (w.heap.size + 3) (wv (r)) 24 := HT.out.all 0 _ rfl
            have g1_1 : Blk wr (w.heap.size + 2) (wv (q)) 24 := HT.out.all 1 _ rfl
            have g1_2 : Blk wr (w.heap.size + 1) (wv (B)) 24 := HT.out.all 2 _ rfl
            have g1_3 : Blk wr (w.heap.size) (wv (A)) 24 := HT.out.all 3 _ rfl
            go_wp2_with (first
              | (refine wpList_load_wv rfl 24 _ rfl _ rfl 24 _ _ (by with_reducible assumption) Try.underlying24 rfl (by kernel_rfl) ?_)
              | (refine wpList_load_wv_g rfl 24 _ rfl _ rfl 24 _ _ (by with_reducible assumption) Try.underlying24 rfl (by kernel_rfl) ?_)
              | (go_at_call 46; (with_reducible refine (C1.out _).mono ?_); rintro e wc1 ⟨rfl, bc1⟩; clear C1; have H102 : Hid (Ds [(w.heap.size + 3, wv (r), 24), (w.heap.size + 2, wv (q), 24), (w.heap.size + 1, wv (B), 24), (w.heap.size, wv (A), 24)] w wc1) := Lib.hid (HT.out.call bc1); clear g1_0 g1_1 g1_2 g1_3 bc1 HT; have g2_0 : Blk wc1 (w.heap.size + 3) (wv (r)) 24 := H102.out.all 0 _ rfl; have g2_1 : Blk wc1 (w.heap.size + 2) (wv (q)) 24 := H102.out.all 1 _ rfl; have g2_2 : Blk wc1 (w.heap.size + 1) (wv (B)) 24 := H102.out.all 2 _ rfl; have g2_3 : Blk wc1 (w.heap.size) (wv (A)) 24 := H102.out.all 3 _ rfl)
              | (go_at_call 47; (with_reducible refine (C2.out _).mono ?_); rintro e wc3 ⟨rfl, bc3⟩; clear C2; have H104 : Hid (Ds [(w.heap.size + 3, wv (r), 24), (w.heap.size + 2, wv (q), 24), (w.heap.size + 1, wv (B), 24), (w.heap.size, wv (A), 24)] w wc3) := Lib.hid (H102.out.call bc3); clear g2_0 g2_1 g2_2 g2_3 bc3 H102; have g3_0 : Blk wc3 (w.heap.size + 3) (wv (r)) 24 := H104.out.all 0 _ rfl; have g3_1 : Blk wc3 (w.heap.size + 2) (wv (q)) 24 := H104.out.all 1 _ rfl; have g3_2 : Blk wc3 (w.heap.size + 1) (wv (B)) 24 := H104.out.all 2 _ rfl; have g3_3 : Blk wc3 (w.heap.size) (wv (A)) 24 := H104.out.all 3 _ rfl)
              | (refine wpList_store_wv rfl 24 _ _ rfl (w.heap.size + 3) (l) rfl rfl 24 (r) (by with_reducible assumption) (by kernel_rfl) ?_; have H105 : Hid (Ds [(w.heap.size + 3, wv (l), 24), (w.heap.size + 2, wv (q), 24), (w.heap.size + 1, wv (B), 24), (w.heap.size, wv (A), 24)] w (wc3.setRow (w.heap.size + 3) (wv (l)))) := Lib.hid (H104.out.setRow 0 (wv (l)) _ _ _ rfl); clear g3_0 g3_1 g3_2 g3_3 H104; have g4_0 : Blk (wc3.setRow (w.heap.size + 3) (wv (l))) (w.heap.size + 3) (wv (l)) 24 := H105.out.all 0 _ rfl; have g4_1 : Blk (wc3.setRow (w.heap.size + 3) (wv (l))) (w.heap.size + 2) (wv (q)) 24 := H105.out.all 1 _ rfl; have g4_2 : Blk (wc3.setRow (w.heap.size + 3) (wv (l))) (w.heap.size + 1) (wv (B)) 24 := H105.out.all 2 _ rfl; have g4_3 : Blk (wc3.setRow (w.heap.size + 3) (wv (l))) (w.heap.size) (wv (A)) 24 := H105.out.all 3 _ rfl)
              | (go_at_call 46; (with_reducible refine (C3.out _).mono ?_); rintro e wc6 ⟨rfl, bc6⟩; clear C3; have H107 : Hid (Ds [(w.heap.size + 3, wv (l), 24), (w.heap.size + 2, wv (q), 24), (w.heap.size + 1, wv (B), 24), (w.heap.size, wv (A), 24)] w wc6) := Lib.hid (H105.out.call bc6); clear g4_0 g4_1 g4_2 g4_3 bc6 H105; have g5_0 : Blk wc6 (w.heap.size + 3) (wv (l)) 24 := H107.out.all 0 _ rfl; have g5_1 : Blk wc6 (w.heap.size + 2) (wv (q)) 24 := H107.out.all 1 _ rfl; have g5_2 : Blk wc6 (w.heap.size + 1) (wv (B)) 24 := H107.out.all 2 _ rfl; have g5_3 : Blk wc6 (w.heap.size) (wv (A)) 24 := H107.out.all 3 _ rfl; have c108a : wc6.cell? ⟨w.heap.size + 3, 0, none⟩ = some (.int .u64 (limb (l) (0) : Nat)) := ((H107.out.all 0 _ rfl).cell _).trans (wv_get _ _ (by omega)); have c108b : wc6.frozen? ⟨w.heap.size + 3, 0, none⟩ = false := (H107.out.all 0 _ rfl).frozen _; have H109 : Hid (Ds [(w.heap.size + 3, wv (l + 1), 24), (w.heap.size + 2, wv (q), 24), (w.heap.size + 1, wv (B), 24), (w.heap.size, wv (A), 24)] w (wc6.setCell ⟨w.heap.size + 3, 0, none⟩ (.int .u64 (y : Nat)))) := Lib.hid (by have hz := H107.out.setCell 0 (0) (.int .u64 (y : Nat)) _ _ _ rfl; rw [HY.out] at hz; exact hz); have g6_0 : Blk (wc6.setCell ⟨w.heap.size + 3, 0, none⟩ (.int .u64 (y : Nat))) (w.heap.size + 3) (wv (l + 1)) 24 := H109.out.all 0 _ rfl; have g6_1 : Blk (wc6.setCell ⟨w.heap.size + 3, 0, none⟩ (.int .u64 (y : Nat))) (w.heap.size + 2) (wv (q)) 24 := H109.out.all 1 _ rfl; have g6_2 : Blk (wc6.setCell ⟨w.heap.size + 3, 0, none⟩ (.int .u64 (y : Nat))) (w.heap.size + 1) (wv (B)) 24 := H109.out.all 2 _ rfl; have g6_3 : Blk (wc6.setCell ⟨w.heap.size + 3, 0, none⟩ (.int .u64 (y : Nat))) (w.heap.size) (wv (A)) 24 := H109.out.all 3 _ rfl)
              | (go_at_call 24; (with_reducible refine (C5.out _).mono ?_); rintro e wc10 ⟨rfl, bc10⟩; clear C5; have H111 : Hid (Ds [(w.heap.size + 3, wv (l + 1), 24), (w.heap.size + 2, wv (q), 24), (w.heap.size + 1, wv (B), 24), (w.heap.size, wv (A), 24)] w wc10) := Lib.hid (H109.out.call bc10); clear g5_0 g5_1 g5_2 g5_3 c108a c108b g6_0 g6_1 g6_2 g6_3 bc10 H109; have g7_0 : Blk wc10 (w.heap.size + 3) (wv (l + 1)) 24 := H111.out.all 0 _ rfl; have g7_1 : Blk wc10 (w.heap.size + 2) (wv (q)) 24 := H111.out.all 1 _ rfl; have g7_2 : Blk wc10 (w.heap.size + 1) (wv (B)) 24 := H111.out.all 2 _ rfl; have g7_3 : Blk wc10 (w.heap.size) (wv (A)) 24 := H111.out.all 3 _ rfl)
              | (refine wpList_store_wv rfl 24 _ _ rfl (w.heap.size + 3) (d) rfl rfl 24 (l + 1) (by with_reducible assumption) (by kernel_rfl) ?_; have H112 : Hid (Ds [(w.heap.size + 3, wv (d), 24), (w.heap.size + 2, wv (q), 24), (w.heap.size + 1, wv (B), 24), (w.heap.size, wv (A), 24)] w (wc10.setRow (w.heap.size + 3) (wv (d)))) := Lib.hid (H111.out.setRow 0 (wv (d)) _ _ _ rfl); clear g7_0 g7_1 g7_2 g7_3 H111; have g8_0 : Blk (wc10.setRow (w.heap.size + 3) (wv (d))) (w.heap.size + 3) (wv (d)) 24 := H112.out.all 0 _ rfl; have g8_1 : Blk (wc10.setRow (w.heap.size + 3) (wv (d))) (w.heap.size + 2) (wv (q)) 24 := H112.out.all 1 _ rfl; have g8_2 : Blk (wc10.setRow (w.heap.size + 3) (wv (d))) (w.heap.size + 1) (wv (B)) 24 := H112.out.all 2 _ rfl; have g8_3 : Blk (wc10.setRow (w.heap.size + 3) (wv (d))) (w.heap.size) (wv (A)) 24 := H112.out.all 3 _ rfl; have c113a : (wc10.setRow (w.heap.size + 3) (wv (d))).cell? ⟨w.heap.size + 2, k / 64, none⟩ = some (.int .u64 (limb (q) (k / 64) : Nat)) := ((H112.out.all 1 _ rfl).cell _).trans (wv_get _ _ (by omega)); have c113b : (wc10.setRow (w.heap.size + 3) (wv (d))).frozen? ⟨w.heap.size + 2, k / 64, none⟩ = false := (H112.out.all 1 _ rfl).frozen _; have H114 : Hid (Ds [(w.heap.size + 3, wv (d), 24), (w.heap.size + 2, wv (q + 2 ^ k), 24), (w.heap.size + 1, wv (B), 24), (w.heap.size, wv (A), 24)] w ((wc10.setRow (w.heap.size + 3) (wv (d))).setCell ⟨w.heap.size + 2, k / 64, none⟩ (.int .u64 (z : Nat)))) := Lib.hid (by have hz := H112.out.setCell 1 (k / 64) (.int .u64 (z : Nat)) _ _ _ rfl; rw [HZ.out] at hz; exact hz); have g9_0 : Blk ((wc10.setRow (w.heap.size + 3) (wv (d))).setCell ⟨w.heap.size + 2, k / 64, none⟩ (.int .u64 (z : Nat))) (w.heap.size + 3) (wv (d)) 24 := H114.out.all 0 _ rfl; have g9_1 : Blk ((wc10.setRow (w.heap.size + 3) (wv (d))).setCell ⟨w.heap.size + 2, k / 64, none⟩ (.int .u64 (z : Nat))) (w.heap.size + 2) (wv (q + 2 ^ k)) 24 := H114.out.all 1 _ rfl; have g9_2 : Blk ((wc10.setRow (w.heap.size + 3) (wv (d))).setCell ⟨w.heap.size + 2, k / 64, none⟩ (.int .u64 (z : Nat))) (w.heap.size + 1) (wv (B)) 24 := H114.out.all 2 _ rfl; have g9_3 : Blk ((wc10.setRow (w.heap.size + 3) (wv (d))).setCell ⟨w.heap.size + 2, k / 64, none⟩ (.int .u64 (z : Nat))) (w.heap.size) (wv (A)) 24 := H114.out.all 3 _ rfl))
            go_roundw
            case rel => exact ⟨k, _, _, by omega, by go_num, HN, H114.out⟩
            case measure => (simp [intOf]; try omega)
          · have htp : bitW r 383 = false := by rw [show bitW r 383 = r.testBit 383 from bitW_nat r 383 (by decide), htb, decide_eq_false ht]
            have hnm : l + 1 = 2 * r + 1 := by rw [htw.1]; exact Nat.mod_eq_of_lt (by omega)
            by_cases hle : B ≤ 2 * r + 1
            · have hsub := htk.2 hle
              have hsW : (l + 1) < W384 := by rw [htw.1]; exact Nat.mod_lt _ W384_pos
              have HN := Lib.hid (s2 hle)
              obtain ⟨d, hd⟩ : ∃ d, 2 * r + 1 - B = d := ⟨_, rfl⟩
              rw [hd] at HN hsub
              obtain ⟨un, hun⟩ : ∃ o, decide ((l + 1) < B) = o := ⟨_, rfl⟩
              obtain ⟨cm, hcm⟩ : ∃ c, cmpW (l + 1) B = c := ⟨_, rfl⟩
              have hcg : (0 : Int) ≤ cm := by rw [← hcm]; exact cmp_nonneg (by rw [hnm]; exact hle)
              have C1 : Hid (∀ W, Calls Try.prog 46 #[.agg (wv (r)), .int .i64 383] W fun e w' => e = .returned (.bool false) ∧ Below W.heap.size W w') := Lib.hid fun W => by have := wbit_c r 383 W; rwa [show bitW r 383 = false from htp] at this
              have C2 : Hid (∀ W, Calls Try.prog 47 #[.agg (wv (r)), .int .i64 1] W fun e w' => e = .returned (.tuple #[.agg (wv l), .bool lo]) ∧ Below W.heap.size W w') := Lib.hid fun W => by have := wleft_c r 1 W hrW; rwa [show clamp 1 384 = 1 from rfl, hl, hlo] at this
              have C3 : Hid (∀ W, Calls Try.prog 46 #[.agg (wv (A)), .int .i64 (k : Nat)] W fun e w' => e = .returned (.bool true) ∧ Below W.heap.size W w') := Lib.hid fun W => by have := wbit_c A k W; rwa [bitW_nat A k (by omega), hx] at this
              have C4 : Hid (∀ W, Calls Try.prog 34 #[.agg (wv ((l + 1))), .agg (wv (B))] W fun e w' => e = .returned (.int .i64 cm) ∧ Below W.heap.size W w') := Lib.hid fun W => by have := wcmp_c (l + 1) B W hsW hBW.out; rwa [hcm] at this
              have C5 : Hid (∀ W, Calls Try.prog 24 #[.agg (wv ((l + 1))), .agg (wv (B))] W fun e w' => e = .returned (.tuple #[.agg (wv d), .bool un]) ∧ Below W.heap.size W w') := Lib.hid fun W => by have := wsub_c (l + 1) B W hsW hBW.out; rwa [hsub, hun] at this
              clear hl hlo htp hx hsW hrW hqb hb0 hrB hqW s1 s2 htw htk htb hl2 ht hle HD hEven hsub hun hd hcm hnm
              have g1_0 : Blk wr (w.heap.size + 3) (wv (r)) 24 := HT.out.all 0 _ rfl
              have g1_1 : Blk wr (w.heap.size + 2) (wv (q)) 24 := HT.out.all 1 _ rfl
              have g1_2 : Blk wr (w.heap.size + 1) (wv (B)) 24 := HT.out.all 2 _ rfl
              have g1_3 : Blk wr (w.heap.size) (wv (A)) 24 := HT.out.all 3 _ rfl
              go_wp2_with (first
                | (refine wpList_load_wv rfl 24 _ rfl _ rfl 24 _ _ (by with_reducible assumption) Try.underlying24 rfl (by kernel_rfl) ?_)
                | (refine wpList_load_wv_g rfl 24 _ rfl _ rfl 24 _ _ (by with_reducible assumption) Try.underlying24 rfl (by kernel_rfl) ?_)
                | (go_at_call 46; (with_reducible refine (C1.out _).mono ?_); rintro e wc15 ⟨rfl, bc15⟩; clear C1; have H116 : Hid (Ds [(w.heap.size + 3, wv (r), 24), (w.heap.size + 2, wv (q), 24), (w.heap.size + 1, wv (B), 24), (w.heap.size, wv (A), 24)] w wc15) := Lib.hid (HT.out.call bc15); clear g1_0 g1_1 g1_2 g1_3 bc15 HT; have g2_0 : Blk wc15 (w.heap.size + 3) (wv (r)) 24 := H116.out.all 0 _ rfl; have g2_1 : Blk wc15 (w.heap.size + 2) (wv (q)) 24 := H116.out.all 1 _ rfl; have g2_2 : Blk wc15 (w.heap.size + 1) (wv (B)) 24 := H116.out.all 2 _ rfl; have g2_3 : Blk wc15 (w.heap.size) (wv (A)) 24 := H116.out.all 3 _ rfl)
                | (go_at_call 47; (with_reducible refine (C2.out _).mono ?_); rintro e wc17 ⟨rfl, bc17⟩; clear C2; have H118 : Hid (Ds [(w.heap.size + 3, wv (r), 24), (w.heap.size + 2, wv (q), 24), (w.heap.size + 1, wv (B), 24), (w.heap.size, wv (A), 24)] w wc17) := Lib.hid (H116.out.call bc17); clear g2_0 g2_1 g2_2 g2_3 bc17 H116; have g3_0 : Blk wc17 (w.heap.size + 3) (wv (r)) 24 := H118.out.all 0 _ rfl; have g3_1 : Blk wc17 (w.heap.size + 2) (wv (q)) 24 := H118.out.all 1 _ rfl; have g3_2 : Blk wc17 (w.heap.size + 1) (wv (B)) 24 := H118.out.all 2 _ rfl; have g3_3 : Blk wc17 (w.heap.size) (wv (A)) 24 := H118.out.all 3 _ rfl)
                | (refine wpList_store_wv rfl 24 _ _ rfl (w.heap.size + 3) (l) rfl rfl 24 (r) (by with_reducible assumption) (by kernel_rfl) ?_; have H119 : Hid (Ds [(w.heap.size + 3, wv (l), 24), (w.heap.size + 2, wv (q), 24), (w.heap.size + 1, wv (B), 24), (w.heap.size, wv (A), 24)] w (wc17.setRow (w.heap.size + 3) (wv (l)))) := Lib.hid (H118.out.setRow 0 (wv (l)) _ _ _ rfl); clear g3_0 g3_1 g3_2 g3_3 H118; have g4_0 : Blk (wc17.setRow (w.heap.size + 3) (wv (l))) (w.heap.size + 3) (wv (l)) 24 := H119.out.all 0 _ rfl; have g4_1 : Blk (wc17.setRow (w.heap.size + 3) (wv (l))) (w.heap.size + 2) (wv (q)) 24 := H119.out.all 1 _ rfl; have g4_2 : Blk (wc17.setRow (w.heap.size + 3) (wv (l))) (w.heap.size + 1) (wv (B)) 24 := H119.out.all 2 _ rfl; have g4_3 : Blk (wc17.setRow (w.heap.size + 3) (wv (l))) (w.heap.size) (wv (A)) 24 := H119.out.all 3 _ rfl)
                | (go_at_call 46; (with_reducible refine (C3.out _).mono ?_); rintro e wc20 ⟨rfl, bc20⟩; clear C3; have H121 : Hid (Ds [(w.heap.size + 3, wv (l), 24), (w.heap.size + 2, wv (q), 24), (w.heap.size + 1, wv (B), 24), (w.heap.size, wv (A), 24)] w wc20) := Lib.hid (H119.out.call bc20); clear g4_0 g4_1 g4_2 g4_3 bc20 H119; have g5_0 : Blk wc20 (w.heap.size + 3) (wv (l)) 24 := H121.out.all 0 _ rfl; have g5_1 : Blk wc20 (w.heap.size + 2) (wv (q)) 24 := H121.out.all 1 _ rfl; have g5_2 : Blk wc20 (w.heap.size + 1) (wv (B)) 24 := H121.out.all 2 _ rfl; have g5_3 : Blk wc20 (w.heap.size) (wv (A)) 24 := H121.out.all 3 _ rfl; have c122a : wc20.cell? ⟨w.heap.size + 3, 0, none⟩ = some (.int .u64 (limb (l) (0) : Nat)) := ((H121.out.all 0 _ rfl).cell _).trans (wv_get _ _ (by omega)); have c122b : wc20.frozen? ⟨w.heap.size + 3, 0, none⟩ = false := (H121.out.all 0 _ rfl).frozen _; have H123 : Hid (Ds [(w.heap.size + 3, wv (l + 1), 24), (w.heap.size + 2, wv (q), 24), (w.heap.size + 1, wv (B), 24), (w.heap.size, wv (A), 24)] w (wc20.setCell ⟨w.heap.size + 3, 0, none⟩ (.int .u64 (y : Nat)))) := Lib.hid (by have hz := H121.out.setCell 0 (0) (.int .u64 (y : Nat)) _ _ _ rfl; rw [HY.out] at hz; exact hz); have g6_0 : Blk (wc20.setCell ⟨w.heap.size + 3, 0, none⟩ (.int .u64 (y : Nat))) (w.heap.size + 3) (wv (l + 1)) 24 := H123.out.all 0 _ rfl; have g6_1 : Blk (wc20.setCell ⟨w.heap.size + 3, 0, none⟩ (.int .u64 (y : Nat))) (w.heap.size + 2) (wv (q)) 24 := H123.out.all 1 _ rfl; have g6_2 : Blk (wc20.setCell ⟨w.heap.size + 3, 0, none⟩ (.int .u64 (y : Nat))) (w.heap.size + 1) (wv (B)) 24 := H123.out.all 2 _ rfl; have g6_3 : Blk (wc20.setCell ⟨w.heap.size + 3, 0, none⟩ (.int .u64 (y : Nat))) (w.heap.size) (wv (A)) 24 := H123.out.all 3 _ rfl)
                | (go_at_call 34; (with_reducible refine (C4.out _).mono ?_); rintro e wc24 ⟨rfl, bc24⟩; clear C4; have H125 : Hid (Ds [(w.heap.size + 3, wv (l + 1), 24), (w.heap.size + 2, wv (q), 24), (w.heap.size + 1, wv (B), 24), (w.heap.size, wv (A), 24)] w wc24) := Lib.hid (H123.out.call bc24); clear g5_0 g5_1 g5_2 g5_3 c122a c122b g6_0 g6_1 g6_2 g6_3 bc24 H123; have g7_0 : Blk wc24 (w.heap.size + 3) (wv (l + 1)) 24 := H125.out.all 0 _ rfl; have g7_1 : Blk wc24 (w.heap.size + 2) (wv (q)) 24 := H125.out.all 1 _ rfl; have g7_2 : Blk wc24 (w.heap.size + 1) (wv (B)) 24 := H125.out.all 2 _ rfl; have g7_3 : Blk wc24 (w.heap.size) (wv (A)) 24 := H125.out.all 3 _ rfl)
                | (go_at_call 24; (with_reducible refine (C5.out _).mono ?_); rintro e wc26 ⟨rfl, bc26⟩; clear C5; have H127 : Hid (Ds [(w.heap.size + 3, wv (l + 1), 24), (w.heap.size + 2, wv (q), 24), (w.heap.size + 1, wv (B), 24), (w.heap.size, wv (A), 24)] w wc26) := Lib.hid (H125.out.call bc26); clear g7_0 g7_1 g7_2 g7_3 bc26 H125; have g8_0 : Blk wc26 (w.heap.size + 3) (wv (l + 1)) 24 := H127.out.all 0 _ rfl; have g8_1 : Blk wc26 (w.heap.size + 2) (wv (q)) 24 := H127.out.all 1 _ rfl; have g8_2 : Blk wc26 (w.heap.size + 1) (wv (B)) 24 := H127.out.all 2 _ rfl; have g8_3 : Blk wc26 (w.heap.size) (wv (A)) 24 := H127.out.all 3 _ rfl)
                | (refine wpList_store_wv rfl 24 _ _ rfl (w.heap.size + 3) (d) rfl rfl 24 (l + 1) (by with_reducible assumption) (by kernel_rfl) ?_; have H128 : Hid (Ds [(w.heap.size + 3, wv (d), 24), (w.heap.size + 2, wv (q), 24), (w.heap.size + 1, wv (B), 24), (w.heap.size, wv (A), 24)] w (wc26.setRow (w.heap.size + 3) (wv (d)))) := Lib.hid (H127.out.setRow 0 (wv (d)) _ _ _ rfl); clear g8_0 g8_1 g8_2 g8_3 H127; have g9_0 : Blk (wc26.setRow (w.heap.size + 3) (wv (d))) (w.heap.size + 3) (wv (d)) 24 := H128.out.all 0 _ rfl; have g9_1 : Blk (wc26.setRow (w.heap.size + 3) (wv (d))) (w.heap.size + 2) (wv (q)) 24 := H128.out.all 1 _ rfl; have g9_2 : Blk (wc26.setRow (w.heap.size + 3) (wv (d))) (w.heap.size + 1) (wv (B)) 24 := H128.out.all 2 _ rfl; have g9_3 : Blk (wc26.setRow (w.heap.size + 3) (wv (d))) (w.heap.size) (wv (A)) 24 := H128.out.all 3 _ rfl; have c129a : (wc26.setRow (w.heap.size + 3) (wv (d))).cell? ⟨w.heap.size + 2, k / 64, none⟩ = some (.int .u64 (limb (q) (k / 64) : Nat)) := ((H128.out.all 1 _ rfl).cell _).trans (wv_get _ _ (by omega)); have c129b : (wc26.setRow (w.heap.size + 3) (wv (d))).frozen? ⟨w.heap.size + 2, k / 64, none⟩ = false := (H128.out.all 1 _ rfl).frozen _; have H130 : Hid (Ds [(w.heap.size + 3, wv (d), 24), (w.heap.size + 2, wv (q + 2 ^ k), 24), (w.heap.size + 1, wv (B), 24), (w.heap.size, wv (A), 24)] w ((wc26.setRow (w.heap.size + 3) (wv (d))).setCell ⟨w.heap.size + 2, k / 64, none⟩ (.int .u64 (z : Nat)))) := Lib.hid (by have hz := H128.out.setCell 1 (k / 64) (.int .u64 (z : Nat)) _ _ _ rfl; rw [HZ.out] at hz; exact hz); have g10_0 : Blk ((wc26.setRow (w.heap.size + 3) (wv (d))).setCell ⟨w.heap.size + 2, k / 64, none⟩ (.int .u64 (z : Nat))) (w.heap.size + 3) (wv (d)) 24 := H130.out.all 0 _ rfl; have g10_1 : Blk ((wc26.setRow (w.heap.size + 3) (wv (d))).setCell ⟨w.heap.size + 2, k / 64, none⟩ (.int .u64 (z : Nat))) (w.heap.size + 2) (wv (q + 2 ^ k)) 24 := H130.out.all 1 _ rfl; have g10_2 : Blk ((wc26.setRow (w.heap.size + 3) (wv (d))).setCell ⟨w.heap.size + 2, k / 64, none⟩ (.int .u64 (z : Nat))) (w.heap.size + 1) (wv (B)) 24 := H130.out.all 2 _ rfl; have g10_3 : Blk ((wc26.setRow (w.heap.size + 3) (wv (d))).setCell ⟨w.heap.size + 2, k / 64, none⟩ (.int .u64 (z : Nat))) (w.heap.size) (wv (A)) 24 := H130.out.all 3 _ rfl))
              go_roundw
              case rel => exact ⟨k, _, _, by omega, by go_num, HN, H130.out⟩
              case measure => (simp [intOf]; try omega)
            · have hsW : (l + 1) < W384 := by rw [htw.1]; exact Nat.mod_lt _ W384_pos
              have HN := Lib.hid (s1 (Nat.lt_of_not_le hle))
              rw [← hnm] at HN
              obtain ⟨cm, hcm⟩ : ∃ c, cmpW (l + 1) B = c := ⟨_, rfl⟩
              have hcg : ¬ (0 : Int) ≤ cm := by rw [← hcm]; exact cmp_negative (by rw [hnm]; exact Nat.lt_of_not_le hle)
              have C1 : Hid (∀ W, Calls Try.prog 46 #[.agg (wv (r)), .int .i64 383] W fun e w' => e = .returned (.bool false) ∧ Below W.heap.size W w') := Lib.hid fun W => by have := wbit_c r 383 W; rwa [show bitW r 383 = false from htp] at this
              have C2 : Hid (∀ W, Calls Try.prog 47 #[.agg (wv (r)), .int .i64 1] W fun e w' => e = .returned (.tuple #[.agg (wv l), .bool lo]) ∧ Below W.heap.size W w') := Lib.hid fun W => by have := wleft_c r 1 W hrW; rwa [show clamp 1 384 = 1 from rfl, hl, hlo] at this
              have C3 : Hid (∀ W, Calls Try.prog 46 #[.agg (wv (A)), .int .i64 (k : Nat)] W fun e w' => e = .returned (.bool true) ∧ Below W.heap.size W w') := Lib.hid fun W => by have := wbit_c A k W; rwa [bitW_nat A k (by omega), hx] at this
              have C4 : Hid (∀ W, Calls Try.prog 34 #[.agg (wv ((l + 1))), .agg (wv (B))] W fun e w' => e = .returned (.int .i64 cm) ∧ Below W.heap.size W w') := Lib.hid fun W => by have := wcmp_c (l + 1) B W hsW hBW.out; rwa [hcm] at this
              clear hl hlo htp hx hsW hrW hqb hb0 hrB hqW s1 s2 htw htk htb hl2 ht hle HD hEven hcm hnm
              have g1_0 : Blk wr (w.heap.size + 3) (wv (r)) 24 := HT.out.all 0 _ rfl
              have g1_1 : Blk wr (w.heap.size + 2) (wv (q)) 24 := HT.out.all 1 _ rfl
              have g1_2 : Blk wr (w.heap.size + 1) (wv (B)) 24 := HT.out.all 2 _ rfl
              have g1_3 : Blk wr (w.heap.size) (wv (A)) 24 := HT.out.all 3 _ rfl
              go_wp2_with (first
                | (refine wpList_load_wv rfl 24 _ rfl _ rfl 24 _ _ (by with_reducible assumption) Try.underlying24 rfl (by kernel_rfl) ?_)
                | (refine wpList_load_wv_g rfl 24 _ rfl _ rfl 24 _ _ (by with_reducible assumption) Try.underlying24 rfl (by kernel_rfl) ?_)
                | (go_at_call 46; (with_reducible refine (C1.out _).mono ?_); rintro e wc31 ⟨rfl, bc31⟩; clear C1; have H132 : Hid (Ds [(w.heap.size + 3, wv (r), 24), (w.heap.size + 2, wv (q), 24), (w.heap.size + 1, wv (B), 24), (w.heap.size, wv (A), 24)] w wc31) := Lib.hid (HT.out.call bc31); clear g1_0 g1_1 g1_2 g1_3 bc31 HT; have g2_0 : Blk wc31 (w.heap.size + 3) (wv (r)) 24 := H132.out.all 0 _ rfl; have g2_1 : Blk wc31 (w.heap.size + 2) (wv (q)) 24 := H132.out.all 1 _ rfl; have g2_2 : Blk wc31 (w.heap.size + 1) (wv (B)) 24 := H132.out.all 2 _ rfl; have g2_3 : Blk wc31 (w.heap.size) (wv (A)) 24 := H132.out.all 3 _ rfl)
                | (go_at_call 47; (with_reducible refine (C2.out _).mono ?_); rintro e wc33 ⟨rfl, bc33⟩; clear C2; have H134 : Hid (Ds [(w.heap.size + 3, wv (r), 24), (w.heap.size + 2, wv (q), 24), (w.heap.size + 1, wv (B), 24), (w.heap.size, wv (A), 24)] w wc33) := Lib.hid (H132.out.call bc33); clear g2_0 g2_1 g2_2 g2_3 bc33 H132; have g3_0 : Blk wc33 (w.heap.size + 3) (wv (r)) 24 := H134.out.all 0 _ rfl; have g3_1 : Blk wc33 (w.heap.size + 2) (wv (q)) 24 := H134.out.all 1 _ rfl; have g3_2 : Blk wc33 (w.heap.size + 1) (wv (B)) 24 := H134.out.all 2 _ rfl; have g3_3 : Blk wc33 (w.heap.size) (wv (A)) 24 := H134.out.all 3 _ rfl)
                | (refine wpList_store_wv rfl 24 _ _ rfl (w.heap.size + 3) (l) rfl rfl 24 (r) (by with_reducible assumption) (by kernel_rfl) ?_; have H135 : Hid (Ds [(w.heap.size + 3, wv (l), 24), (w.heap.size + 2, wv (q), 24), (w.heap.size + 1, wv (B), 24), (w.heap.size, wv (A), 24)] w (wc33.setRow (w.heap.size + 3) (wv (l)))) := Lib.hid (H134.out.setRow 0 (wv (l)) _ _ _ rfl); clear g3_0 g3_1 g3_2 g3_3 H134; have g4_0 : Blk (wc33.setRow (w.heap.size + 3) (wv (l))) (w.heap.size + 3) (wv (l)) 24 := H135.out.all 0 _ rfl; have g4_1 : Blk (wc33.setRow (w.heap.size + 3) (wv (l))) (w.heap.size + 2) (wv (q)) 24 := H135.out.all 1 _ rfl; have g4_2 : Blk (wc33.setRow (w.heap.size + 3) (wv (l))) (w.heap.size + 1) (wv (B)) 24 := H135.out.all 2 _ rfl; have g4_3 : Blk (wc33.setRow (w.heap.size + 3) (wv (l))) (w.heap.size) (wv (A)) 24 := H135.out.all 3 _ rfl)
                | (go_at_call 46; (with_reducible refine (C3.out _).mono ?_); rintro e wc36 ⟨rfl, bc36⟩; clear C3; have H137 : Hid (Ds [(w.heap.size + 3, wv (l), 24), (w.heap.size + 2, wv (q), 24), (w.heap.size + 1, wv (B), 24), (w.heap.size, wv (A), 24)] w wc36) := Lib.hid (H135.out.call bc36); clear g4_0 g4_1 g4_2 g4_3 bc36 H135; have g5_0 : Blk wc36 (w.heap.size + 3) (wv (l)) 24 := H137.out.all 0 _ rfl; have g5_1 : Blk wc36 (w.heap.size + 2) (wv (q)) 24 := H137.out.all 1 _ rfl; have g5_2 : Blk wc36 (w.heap.size + 1) (wv (B)) 24 := H137.out.all 2 _ rfl; have g5_3 : Blk wc36 (w.heap.size) (wv (A)) 24 := H137.out.all 3 _ rfl; have c138a : wc36.cell? ⟨w.heap.size + 3, 0, none⟩ = some (.int .u64 (limb (l) (0) : Nat)) := ((H137.out.all 0 _ rfl).cell _).trans (wv_get _ _ (by omega)); have c138b : wc36.frozen? ⟨w.heap.size + 3, 0, none⟩ = false := (H137.out.all 0 _ rfl).frozen _; have H139 : Hid (Ds [(w.heap.size + 3, wv (l + 1), 24), (w.heap.size + 2, wv (q), 24), (w.heap.size + 1, wv (B), 24), (w.heap.size, wv (A), 24)] w (wc36.setCell ⟨w.heap.size + 3, 0, none⟩ (.int .u64 (y : Nat)))) := Lib.hid (by have hz := H137.out.setCell 0 (0) (.int .u64 (y : Nat)) _ _ _ rfl; rw [HY.out] at hz; exact hz); have g6_0 : Blk (wc36.setCell ⟨w.heap.size + 3, 0, none⟩ (.int .u64 (y : Nat))) (w.heap.size + 3) (wv (l + 1)) 24 := H139.out.all 0 _ rfl; have g6_1 : Blk (wc36.setCell ⟨w.heap.size + 3, 0, none⟩ (.int .u64 (y : Nat))) (w.heap.size + 2) (wv (q)) 24 := H139.out.all 1 _ rfl; have g6_2 : Blk (wc36.setCell ⟨w.heap.size + 3, 0, none⟩ (.int .u64 (y : Nat))) (w.heap.size + 1) (wv (B)) 24 := H139.out.all 2 _ rfl; have g6_3 : Blk (wc36.setCell ⟨w.heap.size + 3, 0, none⟩ (.int .u64 (y : Nat))) (w.heap.size) (wv (A)) 24 := H139.out.all 3 _ rfl)
                | (go_at_call 34; (with_reducible refine (C4.out _).mono ?_); rintro e wc40 ⟨rfl, bc40⟩; clear C4; have H141 : Hid (Ds [(w.heap.size + 3, wv (l + 1), 24), (w.heap.size + 2, wv (q), 24), (w.heap.size + 1, wv (B), 24), (w.heap.size, wv (A), 24)] w wc40) := Lib.hid (H139.out.call bc40); clear g5_0 g5_1 g5_2 g5_3 c138a c138b g6_0 g6_1 g6_2 g6_3 bc40 H139; have g7_0 : Blk wc40 (w.heap.size + 3) (wv (l + 1)) 24 := H141.out.all 0 _ rfl; have g7_1 : Blk wc40 (w.heap.size + 2) (wv (q)) 24 := H141.out.all 1 _ rfl; have g7_2 : Blk wc40 (w.heap.size + 1) (wv (B)) 24 := H141.out.all 2 _ rfl; have g7_3 : Blk wc40 (w.heap.size) (wv (A)) 24 := H141.out.all 3 _ rfl))
              go_roundw
              case rel => exact ⟨k, _, _, by omega, by go_num, HN, H141.out⟩
              case measure => (simp [intOf]; try omega)
        | false =>
          rw [hx] at s1 s2 htw htk
          simp only [Bool.toNat_false, Nat.add_zero] at s1 s2 htw htk
          by_cases ht : W384 ≤ 2 * r
          · have htp : bitW r 383 = true := by rw [show bitW r 383 = r.testBit 383 from bitW_nat r 383 (by decide), htb, decide_eq_true ht]
            have hle : B ≤ 2 * r := htk.1.1 (.inl ht)
            have hsub := htk.2 hle
            have hsW : l < W384 := by rw [htw.1]; exact Nat.mod_lt _ W384_pos
            have HN := Lib.hid (s2 hle)
            obtain ⟨d, hd⟩ : ∃ d, 2 * r - B = d := ⟨_, rfl⟩
            rw [hd] at HN hsub
            obtain ⟨un, hun⟩ : ∃ o, decide (l < B) = o := ⟨_, rfl⟩
            have C1 : Hid (∀ W, Calls Try.prog 46 #[.agg (wv (r)), .int .i64 383] W fun e w' => e = .returned (.bool true) ∧ Below W.heap.size W w') := Lib.hid fun W => by have := wbit_c r 383 W; rwa [show bitW r 383 = true from htp] at this
            have C2 : Hid (∀ W, Calls Try.prog 47 #[.agg (wv (r)), .int .i64 1] W fun e w' => e = .returned (.tuple #[.agg (wv l), .bool lo]) ∧ Below W.heap.size W w') := Lib.hid fun W => by have := wleft_c r 1 W hrW; rwa [show clamp 1 384 = 1 from rfl, hl, hlo] at this
            have C3 : Hid (∀ W, Calls Try.prog 46 #[.agg (wv (A)), .int .i64 (k : Nat)] W fun e w' => e = .returned (.bool false) ∧ Below W.heap.size W w') := Lib.hid fun W => by have := wbit_c A k W; rwa [bitW_nat A k (by omega), hx] at this
            have C5 : Hid (∀ W, Calls Try.prog 24 #[.agg (wv (l)), .agg (wv (B))] W fun e w' => e = .returned (.tuple #[.agg (wv d), .bool un]) ∧ Below W.heap.size W w') := Lib.hid fun W => by have := wsub_c l B W hsW hBW.out; rwa [hsub, hun] at this
            clear hl hlo htp hx hsW hrW hqb hb0 hrB hqW s1 s2 htw htk htb hl2 ht hle HD hEven hsub hun hd
            have g1_0 : Blk wr (w.heap.size + 3) (wv (r)) 24 := HT.out.all 0 _ rfl
            have g1_1 : Blk wr (w.heap.size + 2) (wv (q)) 24 := HT.out.all 1 _ rfl
            have g1_2 : Blk wr (w.heap.size + 1) (wv (B)) 24 := HT.out.all 2 _ rfl
            have g1_3 : Blk wr (w.heap.size) (wv (A)) 24 := HT.out.all 3 _ rfl
            go_wp2_with (first
              | (refine wpList_load_wv rfl 24 _ rfl _ rfl 24 _ _ (by with_reducible assumption) Try.underlying24 rfl (by kernel_rfl) ?_)
              | (refine wpList_load_wv_g rfl 24 _ rfl _ rfl 24 _ _ (by with_reducible assumption) Try.underlying24 rfl (by kernel_rfl) ?_)
              | (go_at_call 46; (with_reducible refine (C1.out _).mono ?_); rintro e wc42 ⟨rfl, bc42⟩; clear C1; have H143 : Hid (Ds [(w.heap.size + 3, wv (r), 24), (w.heap.size + 2, wv (q), 24), (w.heap.size + 1, wv (B), 24), (w.heap.size, wv (A), 24)] w wc42) := Lib.hid (HT.out.call bc42); clear g1_0 g1_1 g1_2 g1_3 bc42 HT; have g2_0 : Blk wc42 (w.heap.size + 3) (wv (r)) 24 := H143.out.all 0 _ rfl; have g2_1 : Blk wc42 (w.heap.size + 2) (wv (q)) 24 := H143.out.all 1 _ rfl; have g2_2 : Blk wc42 (w.heap.size + 1) (wv (B)) 24 := H143.out.all 2 _ rfl; have g2_3 : Blk wc42 (w.heap.size) (wv (A)) 24 := H143.out.all 3 _ rfl)
              | (go_at_call 47; (with_reducible refine (C2.out _).mono ?_); rintro e wc44 ⟨rfl, bc44⟩; clear C2; have H145 : Hid (Ds [(w.heap.size + 3, wv (r), 24), (w.heap.size + 2, wv (q), 24), (w.heap.size + 1, wv (B), 24), (w.heap.size, wv (A), 24)] w wc44) := Lib.hid (H143.out.call bc44); clear g2_0 g2_1 g2_2 g2_3 bc44 H143; have g3_0 : Blk wc44 (w.heap.size + 3) (wv (r)) 24 := H145.out.all 0 _ rfl; have g3_1 : Blk wc44 (w.heap.size + 2) (wv (q)) 24 := H145.out.all 1 _ rfl; have g3_2 : Blk wc44 (w.heap.size + 1) (wv (B)) 24 := H145.out.all 2 _ rfl; have g3_3 : Blk wc44 (w.heap.size) (wv (A)) 24 := H145.out.all 3 _ rfl)
              | (refine wpList_store_wv rfl 24 _ _ rfl (w.heap.size + 3) (l) rfl rfl 24 (r) (by with_reducible assumption) (by kernel_rfl) ?_; have H146 : Hid (Ds [(w.heap.size + 3, wv (l), 24), (w.heap.size + 2, wv (q), 24), (w.heap.size + 1, wv (B), 24), (w.heap.size, wv (A), 24)] w (wc44.setRow (w.heap.size + 3) (wv (l)))) := Lib.hid (H145.out.setRow 0 (wv (l)) _ _ _ rfl); clear g3_0 g3_1 g3_2 g3_3 H145; have g4_0 : Blk (wc44.setRow (w.heap.size + 3) (wv (l))) (w.heap.size + 3) (wv (l)) 24 := H146.out.all 0 _ rfl; have g4_1 : Blk (wc44.setRow (w.heap.size + 3) (wv (l))) (w.heap.size + 2) (wv (q)) 24 := H146.out.all 1 _ rfl; have g4_2 : Blk (wc44.setRow (w.heap.size + 3) (wv (l))) (w.heap.size + 1) (wv (B)) 24 := H146.out.all 2 _ rfl; have g4_3 : Blk (wc44.setRow (w.heap.size + 3) (wv (l))) (w.heap.size) (wv (A)) 24 := H146.out.all 3 _ rfl)
              | (go_at_call 46; (with_reducible refine (C3.out _).mono ?_); rintro e wc47 ⟨rfl, bc47⟩; clear C3; have H148 : Hid (Ds [(w.heap.size + 3, wv (l), 24), (w.heap.size + 2, wv (q), 24), (w.heap.size + 1, wv (B), 24), (w.heap.size, wv (A), 24)] w wc47) := Lib.hid (H146.out.call bc47); clear g4_0 g4_1 g4_2 g4_3 bc47 H146; have g5_0 : Blk wc47 (w.heap.size + 3) (wv (l)) 24 := H148.out.all 0 _ rfl; have g5_1 : Blk wc47 (w.heap.size + 2) (wv (q)) 24 := H148.out.all 1 _ rfl; have g5_2 : Blk wc47 (w.heap.size + 1) (wv (B)) 24 := H148.out.all 2 _ rfl; have g5_3 : Blk wc47 (w.heap.size) (wv (A)) 24 := H148.out.all 3 _ rfl)
              | (go_at_call 24; (with_reducible refine (C5.out _).mono ?_); rintro e wc49 ⟨rfl, bc49⟩; clear C5; have H150 : Hid (Ds [(w.heap.size + 3, wv (l), 24), (w.heap.size + 2, wv (q), 24), (w.heap.size + 1, wv (B), 24), (w.heap.size, wv (A), 24)] w wc49) := Lib.hid (H148.out.call bc49); clear g5_0 g5_1 g5_2 g5_3 bc49 H148; have g6_0 : Blk wc49 (w.heap.size + 3) (wv (l)) 24 := H150.out.all 0 _ rfl; have g6_1 : Blk wc49 (w.heap.size + 2) (wv (q)) 24 := H150.out.all 1 _ rfl; have g6_2 : Blk wc49 (w.heap.size + 1) (wv (B)) 24 := H150.out.all 2 _ rfl; have g6_3 : Blk wc49 (w.heap.size) (wv (A)) 24 := H150.out.all 3 _ rfl)
              | (refine wpList_store_wv rfl 24 _ _ rfl (w.heap.size + 3) (d) rfl rfl 24 (l) (by with_reducible assumption) (by kernel_rfl) ?_; have H151 : Hid (Ds [(w.heap.size + 3, wv (d), 24), (w.heap.size + 2, wv (q), 24), (w.heap.size + 1, wv (B), 24), (w.heap.size, wv (A), 24)] w (wc49.setRow (w.heap.size + 3) (wv (d)))) := Lib.hid (H150.out.setRow 0 (wv (d)) _ _ _ rfl); clear g6_0 g6_1 g6_2 g6_3 H150; have g7_0 : Blk (wc49.setRow (w.heap.size + 3) (wv (d))) (w.heap.size + 3) (wv (d)) 24 := H151.out.all 0 _ rfl; have g7_1 : Blk (wc49.setRow (w.heap.size + 3) (wv (d))) (w.heap.size + 2) (wv (q)) 24 := H151.out.all 1 _ rfl; have g7_2 : Blk (wc49.setRow (w.heap.size + 3) (wv (d))) (w.heap.size + 1) (wv (B)) 24 := H151.out.all 2 _ rfl; have g7_3 : Blk (wc49.setRow (w.heap.size + 3) (wv (d))) (w.heap.size) (wv (A)) 24 := H151.out.all 3 _ rfl; have c152a : (wc49.setRow (w.heap.size + 3) (wv (d))).cell? ⟨w.heap.size + 2, k / 64, none⟩ = some (.int .u64 (limb (q) (k / 64) : Nat)) := ((H151.out.all 1 _ rfl).cell _).trans (wv_get _ _ (by omega)); have c152b : (wc49.setRow (w.heap.size + 3) (wv (d))).frozen? ⟨w.heap.size + 2, k / 64, none⟩ = false := (H151.out.all 1 _ rfl).frozen _; have H153 : Hid (Ds [(w.heap.size + 3, wv (d), 24), (w.heap.size + 2, wv (q + 2 ^ k), 24), (w.heap.size + 1, wv (B), 24), (w.heap.size, wv (A), 24)] w ((wc49.setRow (w.heap.size + 3) (wv (d))).setCell ⟨w.heap.size + 2, k / 64, none⟩ (.int .u64 (z : Nat)))) := Lib.hid (by have hz := H151.out.setCell 1 (k / 64) (.int .u64 (z : Nat)) _ _ _ rfl; rw [HZ.out] at hz; exact hz); have g8_0 : Blk ((wc49.setRow (w.heap.size + 3) (wv (d))).setCell ⟨w.heap.size + 2, k / 64, none⟩ (.int .u64 (z : Nat))) (w.heap.size + 3) (wv (d)) 24 := H153.out.all 0 _ rfl; have g8_1 : Blk ((wc49.setRow (w.heap.size + 3) (wv (d))).setCell ⟨w.heap.size + 2, k / 64, none⟩ (.int .u64 (z : Nat))) (w.heap.size + 2) (wv (q + 2 ^ k)) 24 := H153.out.all 1 _ rfl; have g8_2 : Blk ((wc49.setRow (w.heap.size + 3) (wv (d))).setCell ⟨w.heap.size + 2, k / 64, none⟩ (.int .u64 (z : Nat))) (w.heap.size + 1) (wv (B)) 24 := H153.out.all 2 _ rfl; have g8_3 : Blk ((wc49.setRow (w.heap.size + 3) (wv (d))).setCell ⟨w.heap.size + 2, k / 64, none⟩ (.int .u64 (z : Nat))) (w.heap.size) (wv (A)) 24 := H153.out.all 3 _ rfl))
            go_roundw
            case rel => exact ⟨k, _, _, by omega, by go_num, HN, H153.out⟩
            case measure => (simp [intOf]; try omega)
          · have htp : bitW r 383 = false := by rw [show bitW r 383 = r.testBit 383 from bitW_nat r 383 (by decide), htb, decide_eq_false ht]
            have hnm : l = 2 * r := by rw [htw.1]; exact Nat.mod_eq_of_lt (by omega)
            by_cases hle : B ≤ 2 * r
            · have hsub := htk.2 hle
              have hsW : l < W384 := by rw [htw.1]; exact Nat.mod_lt _ W384_pos
              have HN := Lib.hid (s2 hle)
              obtain ⟨d, hd⟩ : ∃ d, 2 * r - B = d := ⟨_, rfl⟩
              rw [hd] at HN hsub
              obtain ⟨un, hun⟩ : ∃ o, decide (l < B) = o := ⟨_, rfl⟩
              obtain ⟨cm, hcm⟩ : ∃ c, cmpW l B = c := ⟨_, rfl⟩
              have hcg : (0 : Int) ≤ cm := by rw [← hcm]; exact cmp_nonneg (by rw [hnm]; exact hle)
              have C1 : Hid (∀ W, Calls Try.prog 46 #[.agg (wv (r)), .int .i64 383] W fun e w' => e = .returned (.bool false) ∧ Below W.heap.size W w') := Lib.hid fun W => by have := wbit_c r 383 W; rwa [show bitW r 383 = false from htp] at this
              have C2 : Hid (∀ W, Calls Try.prog 47 #[.agg (wv (r)), .int .i64 1] W fun e w' => e = .returned (.tuple #[.agg (wv l), .bool lo]) ∧ Below W.heap.size W w') := Lib.hid fun W => by have := wleft_c r 1 W hrW; rwa [show clamp 1 384 = 1 from rfl, hl, hlo] at this
              have C3 : Hid (∀ W, Calls Try.prog 46 #[.agg (wv (A)), .int .i64 (k : Nat)] W fun e w' => e = .returned (.bool false) ∧ Below W.heap.size W w') := Lib.hid fun W => by have := wbit_c A k W; rwa [bitW_nat A k (by omega), hx] at this
              have C4 : Hid (∀ W, Calls Try.prog 34 #[.agg (wv (l)), .agg (wv (B))] W fun e w' => e = .returned (.int .i64 cm) ∧ Below W.heap.size W w') := Lib.hid fun W => by have := wcmp_c l B W hsW hBW.out; rwa [hcm] at this
              have C5 : Hid (∀ W, Calls Try.prog 24 #[.agg (wv (l)), .agg (wv (B))] W fun e w' => e = .returned (.tuple #[.agg (wv d), .bool un]) ∧ Below W.heap.size W w') := Lib.hid fun W => by have := wsub_c l B W hsW hBW.out; rwa [hsub, hun] at this
              clear hl hlo htp hx hsW hrW hqb hb0 hrB hqW s1 s2 htw htk htb hl2 ht hle HD hEven hsub hun hd hcm hnm
              have g1_0 : Blk wr (w.heap.size + 3) (wv (r)) 24 := HT.out.all 0 _ rfl
              have g1_1 : Blk wr (w.heap.size + 2) (wv (q)) 24 := HT.out.all 1 _ rfl
              have g1_2 : Blk wr (w.heap.size + 1) (wv (B)) 24 := HT.out.all 2 _ rfl
              have g1_3 : Blk wr (w.heap.size) (wv (A)) 24 := HT.out.all 3 _ rfl
              go_wp2_with (first
                | (refine wpList_load_wv rfl 24 _ rfl _ rfl 24 _ _ (by with_reducible assumption) Try.underlying24 rfl (by kernel_rfl) ?_)
                | (refine wpList_load_wv_g rfl 24 _ rfl _ rfl 24 _ _ (by with_reducible assumption) Try.underlying24 rfl (by kernel_rfl) ?_)
                | (go_at_call 46; (with_reducible refine (C1.out _).mono ?_); rintro e wc54 ⟨rfl, bc54⟩; clear C1; have H155 : Hid (Ds [(w.heap.size + 3, wv (r), 24), (w.heap.size + 2, wv (q), 24), (w.heap.size + 1, wv (B), 24), (w.heap.size, wv (A), 24)] w wc54) := Lib.hid (HT.out.call bc54); clear g1_0 g1_1 g1_2 g1_3 bc54 HT; have g2_0 : Blk wc54 (w.heap.size + 3) (wv (r)) 24 := H155.out.all 0 _ rfl; have g2_1 : Blk wc54 (w.heap.size + 2) (wv (q)) 24 := H155.out.all 1 _ rfl; have g2_2 : Blk wc54 (w.heap.size + 1) (wv (B)) 24 := H155.out.all 2 _ rfl; have g2_3 : Blk wc54 (w.heap.size) (wv (A)) 24 := H155.out.all 3 _ rfl)
                | (go_at_call 47; (with_reducible refine (C2.out _).mono ?_); rintro e wc56 ⟨rfl, bc56⟩; clear C2; have H157 : Hid (Ds [(w.heap.size + 3, wv (r), 24), (w.heap.size + 2, wv (q), 24), (w.heap.size + 1, wv (B), 24), (w.heap.size, wv (A), 24)] w wc56) := Lib.hid (H155.out.call bc56); clear g2_0 g2_1 g2_2 g2_3 bc56 H155; have g3_0 : Blk wc56 (w.heap.size + 3) (wv (r)) 24 := H157.out.all 0 _ rfl; have g3_1 : Blk wc56 (w.heap.size + 2) (wv (q)) 24 := H157.out.all 1 _ rfl; have g3_2 : Blk wc56 (w.heap.size + 1) (wv (B)) 24 := H157.out.all 2 _ rfl; have g3_3 : Blk wc56 (w.heap.size) (wv (A)) 24 := H157.out.all 3 _ rfl)
                | (refine wpList_store_wv rfl 24 _ _ rfl (w.heap.size + 3) (l) rfl rfl 24 (r) (by with_reducible assumption) (by kernel_rfl) ?_; have H158 : Hid (Ds [(w.heap.size + 3, wv (l), 24), (w.heap.size + 2, wv (q), 24), (w.heap.size + 1, wv (B), 24), (w.heap.size, wv (A), 24)] w (wc56.setRow (w.heap.size + 3) (wv (l)))) := Lib.hid (H157.out.setRow 0 (wv (l)) _ _ _ rfl); clear g3_0 g3_1 g3_2 g3_3 H157; have g4_0 : Blk (wc56.setRow (w.heap.size + 3) (wv (l))) (w.heap.size + 3) (wv (l)) 24 := H158.out.all 0 _ rfl; have g4_1 : Blk (wc56.setRow (w.heap.size + 3) (wv (l))) (w.heap.size + 2) (wv (q)) 24 := H158.out.all 1 _ rfl; have g4_2 : Blk (wc56.setRow (w.heap.size + 3) (wv (l))) (w.heap.size + 1) (wv (B)) 24 := H158.out.all 2 _ rfl; have g4_3 : Blk (wc56.setRow (w.heap.size + 3) (wv (l))) (w.heap.size) (wv (A)) 24 := H158.out.all 3 _ rfl)
                | (go_at_call 46; (with_reducible refine (C3.out _).mono ?_); rintro e wc59 ⟨rfl, bc59⟩; clear C3; have H160 : Hid (Ds [(w.heap.size + 3, wv (l), 24), (w.heap.size + 2, wv (q), 24), (w.heap.size + 1, wv (B), 24), (w.heap.size, wv (A), 24)] w wc59) := Lib.hid (H158.out.call bc59); clear g4_0 g4_1 g4_2 g4_3 bc59 H158; have g5_0 : Blk wc59 (w.heap.size + 3) (wv (l)) 24 := H160.out.all 0 _ rfl; have g5_1 : Blk wc59 (w.heap.size + 2) (wv (q)) 24 := H160.out.all 1 _ rfl; have g5_2 : Blk wc59 (w.heap.size + 1) (wv (B)) 24 := H160.out.all 2 _ rfl; have g5_3 : Blk wc59 (w.heap.size) (wv (A)) 24 := H160.out.all 3 _ rfl)
                | (go_at_call 34; (with_reducible refine (C4.out _).mono ?_); rintro e wc61 ⟨rfl, bc61⟩; clear C4; have H162 : Hid (Ds [(w.heap.size + 3, wv (l), 24), (w.heap.size + 2, wv (q), 24), (w.heap.size + 1, wv (B), 24), (w.heap.size, wv (A), 24)] w wc61) := Lib.hid (H160.out.call bc61); clear g5_0 g5_1 g5_2 g5_3 bc61 H160; have g6_0 : Blk wc61 (w.heap.size + 3) (wv (l)) 24 := H162.out.all 0 _ rfl; have g6_1 : Blk wc61 (w.heap.size + 2) (wv (q)) 24 := H162.out.all 1 _ rfl; have g6_2 : Blk wc61 (w.heap.size + 1) (wv (B)) 24 := H162.out.all 2 _ rfl; have g6_3 : Blk wc61 (w.heap.size) (wv (A)) 24 := H162.out.all 3 _ rfl)
                | (go_at_call 24; (with_reducible refine (C5.out _).mono ?_); rintro e wc63 ⟨rfl, bc63⟩; clear C5; have H164 : Hid (Ds [(w.heap.size + 3, wv (l), 24), (w.heap.size + 2, wv (q), 24), (w.heap.size + 1, wv (B), 24), (w.heap.size, wv (A), 24)] w wc63) := Lib.hid (H162.out.call bc63); clear g6_0 g6_1 g6_2 g6_3 bc63 H162; have g7_0 : Blk wc63 (w.heap.size + 3) (wv (l)) 24 := H164.out.all 0 _ rfl; have g7_1 : Blk wc63 (w.heap.size + 2) (wv (q)) 24 := H164.out.all 1 _ rfl; have g7_2 : Blk wc63 (w.heap.size + 1) (wv (B)) 24 := H164.out.all 2 _ rfl; have g7_3 : Blk wc63 (w.heap.size) (wv (A)) 24 := H164.out.all 3 _ rfl)
                | (refine wpList_store_wv rfl 24 _ _ rfl (w.heap.size + 3) (d) rfl rfl 24 (l) (by with_reducible assumption) (by kernel_rfl) ?_; have H165 : Hid (Ds [(w.heap.size + 3, wv (d), 24), (w.heap.size + 2, wv (q), 24), (w.heap.size + 1, wv (B), 24), (w.heap.size, wv (A), 24)] w (wc63.setRow (w.heap.size + 3) (wv (d)))) := Lib.hid (H164.out.setRow 0 (wv (d)) _ _ _ rfl); clear g7_0 g7_1 g7_2 g7_3 H164; have g8_0 : Blk (wc63.setRow (w.heap.size + 3) (wv (d))) (w.heap.size + 3) (wv (d)) 24 := H165.out.all 0 _ rfl; have g8_1 : Blk (wc63.setRow (w.heap.size + 3) (wv (d))) (w.heap.size + 2) (wv (q)) 24 := H165.out.all 1 _ rfl; have g8_2 : Blk (wc63.setRow (w.heap.size + 3) (wv (d))) (w.heap.size + 1) (wv (B)) 24 := H165.out.all 2 _ rfl; have g8_3 : Blk (wc63.setRow (w.heap.size + 3) (wv (d))) (w.heap.size) (wv (A)) 24 := H165.out.all 3 _ rfl; have c166a : (wc63.setRow (w.heap.size + 3) (wv (d))).cell? ⟨w.heap.size + 2, k / 64, none⟩ = some (.int .u64 (limb (q) (k / 64) : Nat)) := ((H165.out.all 1 _ rfl).cell _).trans (wv_get _ _ (by omega)); have c166b : (wc63.setRow (w.heap.size + 3) (wv (d))).frozen? ⟨w.heap.size + 2, k / 64, none⟩ = false := (H165.out.all 1 _ rfl).frozen _; have H167 : Hid (Ds [(w.heap.size + 3, wv (d), 24), (w.heap.size + 2, wv (q + 2 ^ k), 24), (w.heap.size + 1, wv (B), 24), (w.heap.size, wv (A), 24)] w ((wc63.setRow (w.heap.size + 3) (wv (d))).setCell ⟨w.heap.size + 2, k / 64, none⟩ (.int .u64 (z : Nat)))) := Lib.hid (by have hz := H165.out.setCell 1 (k / 64) (.int .u64 (z : Nat)) _ _ _ rfl; rw [HZ.out] at hz; exact hz); have g9_0 : Blk ((wc63.setRow (w.heap.size + 3) (wv (d))).setCell ⟨w.heap.size + 2, k / 64, none⟩ (.int .u64 (z : Nat))) (w.heap.size + 3) (wv (d)) 24 := H167.out.all 0 _ rfl; have g9_1 : Blk ((wc63.setRow (w.heap.size + 3) (wv (d))).setCell ⟨w.heap.size + 2, k / 64, none⟩ (.int .u64 (z : Nat))) (w.heap.size + 2) (wv (q + 2 ^ k)) 24 := H167.out.all 1 _ rfl; have g9_2 : Blk ((wc63.setRow (w.heap.size + 3) (wv (d))).setCell ⟨w.heap.size + 2, k / 64, none⟩ (.int .u64 (z : Nat))) (w.heap.size + 1) (wv (B)) 24 := H167.out.all 2 _ rfl; have g9_3 : Blk ((wc63.setRow (w.heap.size + 3) (wv (d))).setCell ⟨w.heap.size + 2, k / 64, none⟩ (.int .u64 (z : Nat))) (w.heap.size) (wv (A)) 24 := H167.out.all 3 _ rfl))
              go_roundw
              case rel => exact ⟨k, _, _, by omega, by go_num, HN, H167.out⟩
              case measure => (simp [intOf]; try omega)
            · have hsW : l < W384 := by rw [htw.1]; exact Nat.mod_lt _ W384_pos
              have HN := Lib.hid (s1 (Nat.lt_of_not_le hle))
              rw [← hnm] at HN
              obtain ⟨cm, hcm⟩ : ∃ c, cmpW l B = c := ⟨_, rfl⟩
              have hcg : ¬ (0 : Int) ≤ cm := by rw [← hcm]; exact cmp_negative (by rw [hnm]; exact Nat.lt_of_not_le hle)
              have C1 : Hid (∀ W, Calls Try.prog 46 #[.agg (wv (r)), .int .i64 383] W fun e w' => e = .returned (.bool false) ∧ Below W.heap.size W w') := Lib.hid fun W => by have := wbit_c r 383 W; rwa [show bitW r 383 = false from htp] at this
              have C2 : Hid (∀ W, Calls Try.prog 47 #[.agg (wv (r)), .int .i64 1] W fun e w' => e = .returned (.tuple #[.agg (wv l), .bool lo]) ∧ Below W.heap.size W w') := Lib.hid fun W => by have := wleft_c r 1 W hrW; rwa [show clamp 1 384 = 1 from rfl, hl, hlo] at this
              have C3 : Hid (∀ W, Calls Try.prog 46 #[.agg (wv (A)), .int .i64 (k : Nat)] W fun e w' => e = .returned (.bool false) ∧ Below W.heap.size W w') := Lib.hid fun W => by have := wbit_c A k W; rwa [bitW_nat A k (by omega), hx] at this
              have C4 : Hid (∀ W, Calls Try.prog 34 #[.agg (wv (l)), .agg (wv (B))] W fun e w' => e = .returned (.int .i64 cm) ∧ Below W.heap.size W w') := Lib.hid fun W => by have := wcmp_c l B W hsW hBW.out; rwa [hcm] at this
              clear hl hlo htp hx hsW hrW hqb hb0 hrB hqW s1 s2 htw htk htb hl2 ht hle HD hEven hcm hnm
              have g1_0 : Blk wr (w.heap.size + 3) (wv (r)) 24 := HT.out.all 0 _ rfl
              have g1_1 : Blk wr (w.heap.size + 2) (wv (q)) 24 := HT.out.all 1 _ rfl
              have g1_2 : Blk wr (w.heap.size + 1) (wv (B)) 24 := HT.out.all 2 _ rfl
              have g1_3 : Blk wr (w.heap.size) (wv (A)) 24 := HT.out.all 3 _ rfl
              go_wp2_with (first
                | (refine wpList_load_wv rfl 24 _ rfl _ rfl 24 _ _ (by with_reducible assumption) Try.underlying24 rfl (by kernel_rfl) ?_)
                | (refine wpList_load_wv_g rfl 24 _ rfl _ rfl 24 _ _ (by with_reducible assumption) Try.underlying24 rfl (by kernel_rfl) ?_)
                | (go_at_call 46; (with_reducible refine (C1.out _).mono ?_); rintro e wc68 ⟨rfl, bc68⟩; clear C1; have H169 : Hid (Ds [(w.heap.size + 3, wv (r), 24), (w.heap.size + 2, wv (q), 24), (w.heap.size + 1, wv (B), 24), (w.heap.size, wv (A), 24)] w wc68) := Lib.hid (HT.out.call bc68); clear g1_0 g1_1 g1_2 g1_3 bc68 HT; have g2_0 : Blk wc68 (w.heap.size + 3) (wv (r)) 24 := H169.out.all 0 _ rfl; have g2_1 : Blk wc68 (w.heap.size + 2) (wv (q)) 24 := H169.out.all 1 _ rfl; have g2_2 : Blk wc68 (w.heap.size + 1) (wv (B)) 24 := H169.out.all 2 _ rfl; have g2_3 : Blk wc68 (w.heap.size) (wv (A)) 24 := H169.out.all 3 _ rfl)
                | (go_at_call 47; (with_reducible refine (C2.out _).mono ?_); rintro e wc70 ⟨rfl, bc70⟩; clear C2; have H171 : Hid (Ds [(w.heap.size + 3, wv (r), 24), (w.heap.size + 2, wv (q), 24), (w.heap.size + 1, wv (B), 24), (w.heap.size, wv (A), 24)] w wc70) := Lib.hid (H169.out.call bc70); clear g2_0 g2_1 g2_2 g2_3 bc70 H169; have g3_0 : Blk wc70 (w.heap.size + 3) (wv (r)) 24 := H171.out.all 0 _ rfl; have g3_1 : Blk wc70 (w.heap.size + 2) (wv (q)) 24 := H171.out.all 1 _ rfl; have g3_2 : Blk wc70 (w.heap.size + 1) (wv (B)) 24 := H171.out.all 2 _ rfl; have g3_3 : Blk wc70 (w.heap.size) (wv (A)) 24 := H171.out.all 3 _ rfl)
                | (refine wpList_store_wv rfl 24 _ _ rfl (w.heap.size + 3) (l) rfl rfl 24 (r) (by with_reducible assumption) (by kernel_rfl) ?_; have H172 : Hid (Ds [(w.heap.size + 3, wv (l), 24), (w.heap.size + 2, wv (q), 24), (w.heap.size + 1, wv (B), 24), (w.heap.size, wv (A), 24)] w (wc70.setRow (w.heap.size + 3) (wv (l)))) := Lib.hid (H171.out.setRow 0 (wv (l)) _ _ _ rfl); clear g3_0 g3_1 g3_2 g3_3 H171; have g4_0 : Blk (wc70.setRow (w.heap.size + 3) (wv (l))) (w.heap.size + 3) (wv (l)) 24 := H172.out.all 0 _ rfl; have g4_1 : Blk (wc70.setRow (w.heap.size + 3) (wv (l))) (w.heap.size + 2) (wv (q)) 24 := H172.out.all 1 _ rfl; have g4_2 : Blk (wc70.setRow (w.heap.size + 3) (wv (l))) (w.heap.size + 1) (wv (B)) 24 := H172.out.all 2 _ rfl; have g4_3 : Blk (wc70.setRow (w.heap.size + 3) (wv (l))) (w.heap.size) (wv (A)) 24 := H172.out.all 3 _ rfl)
                | (go_at_call 46; (with_reducible refine (C3.out _).mono ?_); rintro e wc73 ⟨rfl, bc73⟩; clear C3; have H174 : Hid (Ds [(w.heap.size + 3, wv (l), 24), (w.heap.size + 2, wv (q), 24), (w.heap.size + 1, wv (B), 24), (w.heap.size, wv (A), 24)] w wc73) := Lib.hid (H172.out.call bc73); clear g4_0 g4_1 g4_2 g4_3 bc73 H172; have g5_0 : Blk wc73 (w.heap.size + 3) (wv (l)) 24 := H174.out.all 0 _ rfl; have g5_1 : Blk wc73 (w.heap.size + 2) (wv (q)) 24 := H174.out.all 1 _ rfl; have g5_2 : Blk wc73 (w.heap.size + 1) (wv (B)) 24 := H174.out.all 2 _ rfl; have g5_3 : Blk wc73 (w.heap.size) (wv (A)) 24 := H174.out.all 3 _ rfl)
                | (go_at_call 34; (with_reducible refine (C4.out _).mono ?_); rintro e wc75 ⟨rfl, bc75⟩; clear C4; have H176 : Hid (Ds [(w.heap.size + 3, wv (l), 24), (w.heap.size + 2, wv (q), 24), (w.heap.size + 1, wv (B), 24), (w.heap.size, wv (A), 24)] w wc75) := Lib.hid (H174.out.call bc75); clear g5_0 g5_1 g5_2 g5_3 bc75 H174; have g6_0 : Blk wc75 (w.heap.size + 3) (wv (l)) 24 := H176.out.all 0 _ rfl; have g6_1 : Blk wc75 (w.heap.size + 2) (wv (q)) 24 := H176.out.all 1 _ rfl; have g6_2 : Blk wc75 (w.heap.size + 1) (wv (B)) 24 := H176.out.all 2 _ rfl; have g6_3 : Blk wc75 (w.heap.size) (wv (A)) 24 := H176.out.all 3 _ rfl))
              go_roundw
              case rel => exact ⟨k, _, _, by omega, by go_num, HN, H176.out⟩
              case measure => (simp [intOf]; try omega)
end Go.Proofs.Ytlpgflmjpdhpnaa
