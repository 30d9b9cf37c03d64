/- The walk of the law WideMakes. -/
import Derived.Test.YtlpgflmjpdhpnaaRows
import Derived.Test.YtlpgflmjpdhpnaaE
import Derived.Test.YtlpgflmjpdhpnaaXf
import Derived.Test.YtlpgflmjpdhpnaaXg
import Derived.Test.YtlpgflmjpdhpnaaXh
namespace Go.Proofs.Ytlpgflmjpdhpnaa
open Go.RowKit
set_option maxHeartbeats 4000000
set_option maxRecDepth 100000
set_option linter.unusedVariables false
set_option linter.unusedSimpArgs false
attribute [local irreducible] wv
theorem walk_WideMakes (x : Nat) (h l : Nat) (a c : Nat) (hx : x < 18446744073709551616) (hh : h < 18446744073709551616) (hl : l < 18446744073709551616) (ha : a < W384) (hc : c < W384) (w : World) : Calls Try.prog 9 #[.int .u64 (x : Nat), .agg #[.int .u64 (h : Nat), .int .u64 (l : Nat)], .agg (wv a), .agg (wv c)] w fun e w' => e = .returned (.bool true) ∧ Below w.heap.size w w' := by
  obtain ⟨hb, hhb⟩ : ∃ z, hiB a = z := ⟨_, rfl⟩
  obtain ⟨lb, hlb⟩ : ∃ z, loB a = z := ⟨_, rfl⟩
  obtain ⟨ft, hft⟩ : ∃ z, decide (Fits a) = z := ⟨_, rfl⟩
  obtain ⟨y, hy⟩ : ∃ z, l + h * Bk 1 = z := ⟨_, rfl⟩
  obtain ⟨cm, hcm⟩ : ∃ z, cmpW a c = z := ⟨_, rfl⟩
  have ly : y < W384 := by
    have h2 : Bk 2 ≤ W384 := Bk_le (by omega)
    have h3 : Bk 2 = 18446744073709551616 * Bk 1 := pow_succ64 1
    have h4 : Bk 1 = 18446744073709551616 := by rw [pow_succ64 0, Bk_zero]
    rw [← hy]
    have h5 : (h + 1) * Bk 1 ≤ 18446744073709551616 * Bk 1 := Nat.mul_le_mul_right _ hh
    rw [Nat.add_mul, Nat.one_mul] at h5
    omega
  have lx : x < W384 := by
    have h2 : Bk 1 ≤ W384 := Bk_le (by omega)
    have h4 : Bk 1 = 18446744073709551616 := by rw [pow_succ64 0, Bk_zero]
    omega
  have hm : Try.prog.eqGuardType Try.prog.depth 24 = false := by kernel_rfl
  have hm2 : Try.prog.eqGuardType Try.prog.depth 44 = false := by kernel_rfl
  have q0 : ∀ w, (binOp .eql 24 (.agg (wv (x))) (.agg (wv (x)))).run Try.prog w = .ok (.bool true) w := fun w => by
    have := run_eql_wv Try.underlying24 Try.underlying22 (by kernel_rfl) (x) (x) (lx) (lx) w
    rwa [decide_eq_true rfl] at this
  have q1 : ∀ w, (binOp .eql 24 (.agg (wv (y))) (.agg (wv (y)))).run Try.prog w = .ok (.bool true) w := fun w => by
    have := run_eql_wv Try.underlying24 Try.underlying22 (by kernel_rfl) (y) (y) (ly) (ly) w
    rwa [decide_eq_true rfl] at this
  have C0 : Hid (∀ W, Calls Try.prog 28 #[.agg (wv a)] W fun e w' => e = .returned (.tuple #[.agg #[.int .u64 (hb : Nat), .int .u64 (lb : Nat)], .bool ft]) ∧ Below W.heap.size W w') := Lib.hid (fun W => by have := wtobits_c a W; rwa [hhb, hlb, hft] at this)
  have C1 : Hid (∀ W, Calls Try.prog 29 #[.agg (wv a)] W fun e w' => e = .returned (.tuple #[.agg #[.int .u64 (hb : Nat), .int .u64 (lb : Nat)], .bool ft]) ∧ Below W.heap.size W w') := Lib.hid (fun W => by have := rtobits_c a W; rwa [hhb, hlb, hft] at this)
  have C2 : Hid (∀ W, Calls Try.prog 30 #[.int .u64 (x : Nat)] W fun e w' => e = .returned (.agg (wv x)) ∧ Below W.heap.size W w') := Lib.hid (fun W => wof_c x W hx)
  have C3 : Hid (∀ W, Calls Try.prog 31 #[.int .u64 (x : Nat)] W fun e w' => e = .returned (.agg (wv x)) ∧ Below W.heap.size W w') := Lib.hid (fun W => rof2_c x W hx)
  have C4 : Hid (∀ W, Calls Try.prog 32 #[.agg #[.int .u64 (h : Nat), .int .u64 (l : Nat)]] W fun e w' => e = .returned (.agg (wv y)) ∧ Below W.heap.size W w') := Lib.hid (fun W => by have := wofbits_c h l W hh hl; rwa [hy] at this)
  have C5 : Hid (∀ W, Calls Try.prog 33 #[.agg #[.int .u64 (h : Nat), .int .u64 (l : Nat)]] W fun e w' => e = .returned (.agg (wv y)) ∧ Below W.heap.size W w') := Lib.hid (fun W => by have := rofbits_c h l W hh hl; rwa [hy] at this)
  have C6 : Hid (∀ W, Calls Try.prog 34 #[.agg (wv a), .agg (wv c)] W fun e w' => e = .returned (.int .i64 cm) ∧ Below W.heap.size W w') := Lib.hid (fun W => by have := wcmp_c a c W ha hc; rwa [hcm] at this)
  have C7 : Hid (∀ W, Calls Try.prog 35 #[.agg (wv a), .agg (wv c)] W fun e w' => e = .returned (.int .i64 cm) ∧ Below W.heap.size W w') := Lib.hid (fun W => by have := rcmp2_c a c W ha hc; rwa [hcm] at this)
  have C8 : Hid (∀ W, Calls Try.prog 34 #[.agg (wv a), .agg (wv a)] W fun e w' => e = .returned (.int .i64 0) ∧ Below W.heap.size W w') := Lib.hid (fun W => by have := wcmp_c a a W ha ha; rwa [cmp_eq rfl] at this)
  have C9 : Hid (∀ W, Calls Try.prog 16 #[] W fun e w' => e = .returned (.bool true) ∧ Below W.heap.size W w') := Lib.hid (fun W => alive2_c W)
  clear hhb hlb hft hy hcm ly lx hx hh hl ha hc
  go_enter Try.func9, Try.ntmps9
  have HS0 := Lib.hid ((((Bs.nil w).box #[.int .u64 (h : Nat), .int .u64 (l : Nat)] 44 w.heap.size rfl).box (wv a) 24 (w.heap.size + 1) (by simp)).box (wv c) 24 (w.heap.size + 1 + 1) (by simp))
  have g0 : Blk (((w.alloc (.cells #[.int .u64 (h : Nat), .int .u64 (l : Nat)] 44)).alloc (.cells (wv a) 24)).alloc (.cells (wv c) 24)) (w.heap.size + 1) (wv a) 24 := HS0.out.all 1 _ rfl
  go_wp2_with (first
    | (refine wpList_load_wv rfl 24 _ rfl _ rfl 24 _ _ (by with_reducible assumption) Try.underlying24 rfl (by kernel_rfl) ?_)
    | (refine wpList_store_blk rfl 44 _ _ rfl _ _ rfl rfl 44 _ (Blk.newAt _ _ _ rfl) (by kernel_rfl) rfl rfl ?_)
    | (go_at_call 28; (with_reducible refine (C0.out _).mono ?_); rintro e w0 ⟨rfl, b0⟩; have HS1 : Hid (Bs _ w (w0.alloc (.cells #[.int .u64 (hb : Nat), .int .u64 (lb : Nat)] 44))) := Lib.hid ((HS0.out.call b0).box #[.int .u64 (hb : Nat), .int .u64 (lb : Nat)] 44 w0.heap.size rfl); clear g0 b0 HS0; have g0 : Blk (w0.alloc (.cells #[.int .u64 (hb : Nat), .int .u64 (lb : Nat)] 44)) (w.heap.size + 1) (wv a) 24 := HS1.out.all 2 _ rfl)
    | (go_at_call 29; (with_reducible refine (C1.out _).mono ?_); rintro e w1 ⟨rfl, b1⟩; have HS2 : Hid (Bs _ w (w1.alloc (.cells #[.int .u64 (hb : Nat), .int .u64 (lb : Nat)] 44))) := Lib.hid ((HS1.out.call b1).box #[.int .u64 (hb : Nat), .int .u64 (lb : Nat)] 44 w1.heap.size rfl); clear g0 b1 HS1))
  refine wp_region_sets_lit (fun S w' => Bs [(w1.heap.size, #[.int .u64 (hb : Nat), .int .u64 (lb : Nat)], 44), (w0.heap.size, #[.int .u64 (hb : Nat), .int .u64 (lb : Nat)], 44), (w.heap.size + 1 + 1, wv c, 24), (w.heap.size + 1, wv a, 24), (w.heap.size, #[.int .u64 (h : Nat), .int .u64 (l : Nat)], 44)] w w') (by kernel_rfl) (by kernel_rfl) (HS2.out.drew) ?_
  obtain ⟨U, W, hW, hU⟩ := worlds (fun S w' => Bs [(w1.heap.size, #[.int .u64 (hb : Nat), .int .u64 (lb : Nat)], 44), (w0.heap.size, #[.int .u64 (hb : Nat), .int .u64 (lb : Nat)], 44), (w.heap.size + 1 + 1, wv c, 24), (w.heap.size + 1, wv a, 24), (w.heap.size, #[.int .u64 (h : Nat), .int .u64 (l : Nat)], 44)] w w')
  replace hW := Lib.hid hW
  replace hU := Lib.hid hU
  repeat (refine sets_quiet (fun w' => ∃ u, w' = W u) hU.out rfl (fun _ _ _ h => h) rfl ?_; intro K hK; go_big_quiet_op; first | go_big_quiet_on | (refine ⟨_, fun _ => rfl, ?_⟩; go_big_quiet_on))
  refine sets_call (.agg (wv x)) rfl 30 _ _ rfl Try.f30 Try.func30 (by kernel_rfl) (by kernel_rfl) [.int .u64 (x : Nat)] rfl ?_ ?_
  · intro S w' h1 h2 h3
    refine (C2.out _).mono ?_
    rintro e w'' ⟨rfl, hb⟩
    exact ⟨rfl, h3.call hb⟩
  · simp only [Act.put, List.setIfInBounds_toArray, List.set_cons_succ, List.set_cons_zero]
    repeat (refine sets_quiet (fun w' => ∃ u, w' = W u) hU.out rfl (fun _ _ _ h => h) rfl ?_; intro K hK; go_big_quiet_op; first | go_big_quiet_on | (refine ⟨_, fun _ => rfl, ?_⟩; go_big_quiet_on))
    refine sets_call (.agg (wv x)) rfl 31 _ _ rfl Try.f31 Try.func31 (by kernel_rfl) (by kernel_rfl) [.int .u64 (x : Nat)] rfl ?_ ?_
    · intro S w' h1 h2 h3
      refine (C3.out _).mono ?_
      rintro e w'' ⟨rfl, hb⟩
      exact ⟨rfl, h3.call hb⟩
    · simp only [Act.put, List.setIfInBounds_toArray, List.set_cons_succ, List.set_cons_zero]
      repeat (refine sets_quiet (fun w' => ∃ u, w' = W u) hU.out rfl (fun _ _ _ h => h) rfl ?_; intro K hK; go_big_quiet_op; first | go_big_quiet_on | (refine ⟨_, fun _ => rfl, ?_⟩; go_big_quiet_on))
      refine sets_load_blk rfl (fun _ _ _ h => h) 44 _ rfl (w.heap.size) rfl 44 (#[.int .u64 (h : Nat), .int .u64 (l : Nat)]) _ (fun S w' _ h3 => h3.all 4 _ rfl) Try.underlying44 rfl (by first | (rw [wv_size]; kernel_rfl) | kernel_rfl) ?_
      simp only [Act.put, List.setIfInBounds_toArray, List.set_cons_succ, List.set_cons_zero]
      repeat (refine sets_quiet (fun w' => ∃ u, w' = W u) hU.out rfl (fun _ _ _ h => h) rfl ?_; intro K hK; go_big_quiet_op; first | go_big_quiet_on | (refine ⟨_, fun _ => rfl, ?_⟩; go_big_quiet_on))
      refine sets_call (.agg (wv y)) rfl 32 _ _ rfl Try.f32 Try.func32 (by kernel_rfl) (by kernel_rfl) [.agg #[.int .u64 (h : Nat), .int .u64 (l : Nat)]] rfl ?_ ?_
      · intro S w' h1 h2 h3
        refine (C4.out _).mono ?_
        rintro e w'' ⟨rfl, hb⟩
        exact ⟨rfl, h3.call hb⟩
      · simp only [Act.put, List.setIfInBounds_toArray, List.set_cons_succ, List.set_cons_zero]
        repeat (refine sets_quiet (fun w' => ∃ u, w' = W u) hU.out rfl (fun _ _ _ h => h) rfl ?_; intro K hK; go_big_quiet_op; first | go_big_quiet_on | (refine ⟨_, fun _ => rfl, ?_⟩; go_big_quiet_on))
        refine sets_load_blk rfl (fun _ _ _ h => h) 44 _ rfl (w.heap.size) rfl 44 (#[.int .u64 (h : Nat), .int .u64 (l : Nat)]) _ (fun S w' _ h3 => h3.all 4 _ rfl) Try.underlying44 rfl (by first | (rw [wv_size]; kernel_rfl) | kernel_rfl) ?_
        simp only [Act.put, List.setIfInBounds_toArray, List.set_cons_succ, List.set_cons_zero]
        repeat (refine sets_quiet (fun w' => ∃ u, w' = W u) hU.out rfl (fun _ _ _ h => h) rfl ?_; intro K hK; go_big_quiet_op; first | go_big_quiet_on | (refine ⟨_, fun _ => rfl, ?_⟩; go_big_quiet_on))
        refine sets_call (.agg (wv y)) rfl 33 _ _ rfl Try.f33 Try.func33 (by kernel_rfl) (by kernel_rfl) [.agg #[.int .u64 (h : Nat), .int .u64 (l : Nat)]] rfl ?_ ?_
        · intro S w' h1 h2 h3
          refine (C5.out _).mono ?_
          rintro e w'' ⟨rfl, hb⟩
          exact ⟨rfl, h3.call hb⟩
        · simp only [Act.put, List.setIfInBounds_toArray, List.set_cons_succ, List.set_cons_zero]
          repeat (refine sets_quiet (fun w' => ∃ u, w' = W u) hU.out rfl (fun _ _ _ h => h) rfl ?_; intro K hK; go_big_quiet_op; first | go_big_quiet_on | (refine ⟨_, fun _ => rfl, ?_⟩; go_big_quiet_on))
          refine sets_load_blk rfl (fun _ _ _ h => h) 44 _ rfl (w0.heap.size) rfl 44 (#[.int .u64 (hb : Nat), .int .u64 (lb : Nat)]) _ (fun S w' _ h3 => h3.all 1 _ rfl) Try.underlying44 rfl (by first | (rw [wv_size]; kernel_rfl) | kernel_rfl) ?_
          simp only [Act.put, List.setIfInBounds_toArray, List.set_cons_succ, List.set_cons_zero]
          repeat (refine sets_quiet (fun w' => ∃ u, w' = W u) hU.out rfl (fun _ _ _ h => h) rfl ?_; intro K hK; go_big_quiet_op; first | go_big_quiet_on | (refine ⟨_, fun _ => rfl, ?_⟩; go_big_quiet_on))
          refine sets_load_blk rfl (fun _ _ _ h => h) 44 _ rfl (w1.heap.size) rfl 44 (#[.int .u64 (hb : Nat), .int .u64 (lb : Nat)]) _ (fun S w' _ h3 => h3.all 0 _ rfl) Try.underlying44 rfl (by first | (rw [wv_size]; kernel_rfl) | kernel_rfl) ?_
          simp only [Act.put, List.setIfInBounds_toArray, List.set_cons_succ, List.set_cons_zero]
          repeat (refine sets_quiet (fun w' => ∃ u, w' = W u) hU.out rfl (fun _ _ _ h => h) rfl ?_; intro K hK; go_big_quiet_op; first | go_big_quiet_on | (refine ⟨_, fun _ => rfl, ?_⟩; go_big_quiet_on))
          refine sets_load_blk rfl (fun _ _ _ h => h) 24 _ rfl (w.heap.size + 1) rfl 24 (wv a) _ (fun S w' _ h3 => h3.all 3 _ rfl) Try.underlying24 rfl (by first | (rw [wv_size]; kernel_rfl) | kernel_rfl) ?_
          simp only [Act.put, List.setIfInBounds_toArray, List.set_cons_succ, List.set_cons_zero]
          repeat (refine sets_quiet (fun w' => ∃ u, w' = W u) hU.out rfl (fun _ _ _ h => h) rfl ?_; intro K hK; go_big_quiet_op; first | go_big_quiet_on | (refine ⟨_, fun _ => rfl, ?_⟩; go_big_quiet_on))
          refine sets_load_blk rfl (fun _ _ _ h => h) 24 _ rfl (w.heap.size + 1 + 1) rfl 24 (wv c) _ (fun S w' _ h3 => h3.all 2 _ rfl) Try.underlying24 rfl (by first | (rw [wv_size]; kernel_rfl) | kernel_rfl) ?_
          simp only [Act.put, List.setIfInBounds_toArray, List.set_cons_succ, List.set_cons_zero]
          repeat (refine sets_quiet (fun w' => ∃ u, w' = W u) hU.out rfl (fun _ _ _ h => h) rfl ?_; intro K hK; go_big_quiet_op; first | go_big_quiet_on | (refine ⟨_, fun _ => rfl, ?_⟩; go_big_quiet_on))
          refine sets_call (.int .i64 cm) rfl 34 _ _ rfl Try.f34 Try.func34 (by kernel_rfl) (by kernel_rfl) [.agg (wv a), .agg (wv c)] rfl ?_ ?_
          · intro S w' h1 h2 h3
            refine (C6.out _).mono ?_
            rintro e w'' ⟨rfl, hb⟩
            exact ⟨rfl, h3.call hb⟩
          · simp only [Act.put, List.setIfInBounds_toArray, List.set_cons_succ, List.set_cons_zero]
            repeat (refine sets_quiet (fun w' => ∃ u, w' = W u) hU.out rfl (fun _ _ _ h => h) rfl ?_; intro K hK; go_big_quiet_op; first | go_big_quiet_on | (refine ⟨_, fun _ => rfl, ?_⟩; go_big_quiet_on))
            refine sets_load_blk rfl (fun _ _ _ h => h) 24 _ rfl (w.heap.size + 1) rfl 24 (wv a) _ (fun S w' _ h3 => h3.all 3 _ rfl) Try.underlying24 rfl (by first | (rw [wv_size]; kernel_rfl) | kernel_rfl) ?_
            simp only [Act.put, List.setIfInBounds_toArray, List.set_cons_succ, List.set_cons_zero]
            repeat (refine sets_quiet (fun w' => ∃ u, w' = W u) hU.out rfl (fun _ _ _ h => h) rfl ?_; intro K hK; go_big_quiet_op; first | go_big_quiet_on | (refine ⟨_, fun _ => rfl, ?_⟩; go_big_quiet_on))
            refine sets_load_blk rfl (fun _ _ _ h => h) 24 _ rfl (w.heap.size + 1 + 1) rfl 24 (wv c) _ (fun S w' _ h3 => h3.all 2 _ rfl) Try.underlying24 rfl (by first | (rw [wv_size]; kernel_rfl) | kernel_rfl) ?_
            simp only [Act.put, List.setIfInBounds_toArray, List.set_cons_succ, List.set_cons_zero]
            repeat (refine sets_quiet (fun w' => ∃ u, w' = W u) hU.out rfl (fun _ _ _ h => h) rfl ?_; intro K hK; go_big_quiet_op; first | go_big_quiet_on | (refine ⟨_, fun _ => rfl, ?_⟩; go_big_quiet_on))
            refine sets_call (.int .i64 cm) rfl 35 _ _ rfl Try.f35 Try.func35 (by kernel_rfl) (by kernel_rfl) [.agg (wv a), .agg (wv c)] rfl ?_ ?_
            · intro S w' h1 h2 h3
              refine (C7.out _).mono ?_
              rintro e w'' ⟨rfl, hb⟩
              exact ⟨rfl, h3.call hb⟩
            · simp only [Act.put, List.setIfInBounds_toArray, List.set_cons_succ, List.set_cons_zero]
              repeat (refine sets_quiet (fun w' => ∃ u, w' = W u) hU.out rfl (fun _ _ _ h => h) rfl ?_; intro K hK; go_big_quiet_op; first | go_big_quiet_on | (refine ⟨_, fun _ => rfl, ?_⟩; go_big_quiet_on))
              refine sets_load_blk rfl (fun _ _ _ h => h) 24 _ rfl (w.heap.size + 1) rfl 24 (wv a) _ (fun S w' _ h3 => h3.all 3 _ rfl) Try.underlying24 rfl (by first | (rw [wv_size]; kernel_rfl) | kernel_rfl) ?_
              simp only [Act.put, List.setIfInBounds_toArray, List.set_cons_succ, List.set_cons_zero]
              repeat (refine sets_quiet (fun w' => ∃ u, w' = W u) hU.out rfl (fun _ _ _ h => h) rfl ?_; intro K hK; go_big_quiet_op; first | go_big_quiet_on | (refine ⟨_, fun _ => rfl, ?_⟩; go_big_quiet_on))
              refine sets_load_blk rfl (fun _ _ _ h => h) 24 _ rfl (w.heap.size + 1) rfl 24 (wv a) _ (fun S w' _ h3 => h3.all 3 _ rfl) Try.underlying24 rfl (by first | (rw [wv_size]; kernel_rfl) | kernel_rfl) ?_
              simp only [Act.put, List.setIfInBounds_toArray, List.set_cons_succ, List.set_cons_zero]
              repeat (refine sets_quiet (fun w' => ∃ u, w' = W u) hU.out rfl (fun _ _ _ h => h) rfl ?_; intro K hK; go_big_quiet_op; first | go_big_quiet_on | (refine ⟨_, fun _ => rfl, ?_⟩; go_big_quiet_on))
              refine sets_call (.int .i64 0) rfl 34 _ _ rfl Try.f34 Try.func34 (by kernel_rfl) (by kernel_rfl) [.agg (wv a), .agg (wv a)] rfl ?_ ?_
              · intro S w' h1 h2 h3
                refine (C8.out _).mono ?_
                rintro e w'' ⟨rfl, hb⟩
                exact ⟨rfl, h3.call hb⟩
              · simp only [Act.put, List.setIfInBounds_toArray, List.set_cons_succ, List.set_cons_zero]
                repeat (refine sets_quiet (fun w' => ∃ u, w' = W u) hU.out rfl (fun _ _ _ h => h) rfl ?_; intro K hK; go_big_quiet_op; first | go_big_quiet_on | (refine ⟨_, fun _ => rfl, ?_⟩; go_big_quiet_on))
                refine sets_call (.bool true) rfl 16 _ _ rfl Try.f16 Try.func16 (by kernel_rfl) (by kernel_rfl) [] rfl ?_ ?_
                · intro S w' h1 h2 h3
                  refine (C9.out _).mono ?_
                  rintro e w'' ⟨rfl, hb⟩
                  exact ⟨rfl, h3.call hb⟩
                · simp only [Act.put, List.setIfInBounds_toArray, List.set_cons_succ, List.set_cons_zero]
                  repeat (refine sets_quiet (fun w' => ∃ u, w' = W u) hU.out rfl (fun _ _ _ h => h) rfl ?_; intro K hK; go_big_quiet_op; first | go_big_quiet_on | (refine ⟨_, fun _ => rfl, ?_⟩; go_big_quiet_on))
                  intro S w' hS hI
                  clear hW hU
                  go_wp2
                  go_ret
                  exact ⟨rfl, hI.le⟩
end Go.Proofs.Ytlpgflmjpdhpnaa
