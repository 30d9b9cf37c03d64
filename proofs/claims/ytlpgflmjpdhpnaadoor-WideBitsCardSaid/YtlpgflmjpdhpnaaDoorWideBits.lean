/- The walk of the law WideBits. -/
import Derived.Test.YtlpgflmjpdhpnaaDoorRows
import Derived.Test.YtlpgflmjpdhpnaaDoorG
import Derived.Test.YtlpgflmjpdhpnaaDoorXf
import Derived.Test.YtlpgflmjpdhpnaaDoorXc
import Derived.Test.YtlpgflmjpdhpnaaDoorXi
import Derived.Test.YtlpgflmjpdhpnaaDoorTw
import Derived.Test.YtlpgflmjpdhpnaaDoorTa
import Derived.Test.YtlpgflmjpdhpnaaDoorTm
namespace Go.Proofs.YtlpgflmjpdhpnaaDoor
open Go.RowKit
set_option maxHeartbeats 4000000
set_option maxRecDepth 100000
set_option linter.unusedVariables false
set_option linter.unusedSimpArgs false
set_option exponentiation.threshold 1000
attribute [local irreducible] wv
theorem walk_WideBits (a b : Nat) (i : Int) (ha : a < W384) (hb : b < W384) (w : World) (hT : Tab w) : Calls Tryd.prog 10 #[.agg (wv (a)), .agg (wv (b)), .int .i64 i] w fun e w' => e = .returned (.bool true) ∧ Below w.heap.size w w' := by
  have HTab := Lib.hid hT
  clear hT
  obtain ⟨l, hl⟩ : ∃ c, lenW a = c := ⟨_, rfl⟩
  obtain ⟨z, hz⟩ : ∃ c, lowW a = c := ⟨_, rfl⟩
  obtain ⟨u, hu⟩ : ∃ c, bitW a i = c := ⟨_, rfl⟩
  have lm : maskN (clamp i 384) < W384 := maskN_lt (clamp_le i 384)
  obtain ⟨m, hm0⟩ : ∃ c, maskN (clamp i 384) = c := ⟨_, rfl⟩
  rw [hm0] at lm
  obtain ⟨x, hx⟩ : ∃ x, a &&& b = x := ⟨_, rfl⟩
  obtain ⟨y, hy⟩ : ∃ x, a ||| b = x := ⟨_, rfl⟩
  obtain ⟨v, hv⟩ : ∃ x, notW a = x := ⟨_, rfl⟩
  have lx : x < W384 := by rw [← hx]; exact Nat.lt_of_le_of_lt Nat.and_le_left ha
  have ly : y < W384 := by rw [← hy]; rw [W384_two] at ha hb ⊢; exact Nat.or_lt_two_pow ha hb
  have lv : v < W384 := by rw [← hv]; unfold notW; omega
  have hm : Tryd.prog.eqGuardType Tryd.prog.depth 24 = false := by kernel_rfl
  have q0 : ∀ w, (binOp .eql 24 (.agg (wv (m))) (.agg (wv (m)))).run Tryd.prog w = .ok (.bool true) w := fun w => by
    have := run_eql_wv Tryd.underlying24 Tryd.underlying22 (by kernel_rfl) (m) (m) (lm) (lm) w
    rwa [decide_eq_true rfl] at this
  have q1 : ∀ w, (binOp .eql 24 (.agg (wv (x))) (.agg (wv (x)))).run Tryd.prog w = .ok (.bool true) w := fun w => by
    have := run_eql_wv Tryd.underlying24 Tryd.underlying22 (by kernel_rfl) (x) (x) (lx) (lx) w
    rwa [decide_eq_true rfl] at this
  have q2 : ∀ w, (binOp .eql 24 (.agg (wv (y))) (.agg (wv (y)))).run Tryd.prog w = .ok (.bool true) w := fun w => by
    have := run_eql_wv Tryd.underlying24 Tryd.underlying22 (by kernel_rfl) (y) (y) (ly) (ly) w
    rwa [decide_eq_true rfl] at this
  have q3 : ∀ w, (binOp .eql 24 (.agg (wv (v))) (.agg (wv (v)))).run Tryd.prog w = .ok (.bool true) w := fun w => by
    have := run_eql_wv Tryd.underlying24 Tryd.underlying22 (by kernel_rfl) (v) (v) (lv) (lv) w
    rwa [decide_eq_true rfl] at this
  have C0 : Hid (∀ W, Calls Tryd.prog 21 #[.agg (wv (a))] W fun e w' => e = .returned (.int .i64 (l : Nat)) ∧ Below W.heap.size W w') := Lib.hid fun W => by have := wlen_c a W ha; rwa [hl] at this
  have C1 : Hid (∀ W, Calls Tryd.prog 30 #[.agg (wv (a))] W fun e w' => e = .returned (.int .i64 (l : Nat)) ∧ Below W.heap.size W w') := Lib.hid fun W => by have := r2len_c a W ha; rwa [hl] at this
  have C2 : Hid (∀ W, Tab W → Calls Tryd.prog 31 #[.agg (wv (a))] W fun e w' => e = .returned (.int .i64 (z : Nat)) ∧ Below W.heap.size W w') := Lib.hid fun W hT => by have := wlow_c a W ha hT; rwa [hz] at this
  have C3 : Hid (∀ W, Calls Tryd.prog 32 #[.agg (wv (a))] W fun e w' => e = .returned (.int .i64 (z : Nat)) ∧ Below W.heap.size W w') := Lib.hid fun W => by have := rlow2_c a W ha; rwa [hz] at this
  have C4 : Hid (∀ W, Calls Tryd.prog 33 #[.agg (wv (a)), .int .i64 i] W fun e w' => e = .returned (.bool u) ∧ Below W.heap.size W w') := Lib.hid fun W => by have := wbit_c a i W; rwa [hu] at this
  have C5 : Hid (∀ W, Calls Tryd.prog 34 #[.agg (wv (a)), .int .i64 i] W fun e w' => e = .returned (.bool u) ∧ Below W.heap.size W w') := Lib.hid fun W => by have := rbit2_c a i W; rwa [hu] at this
  have C6 : Hid (∀ W, Calls Tryd.prog 35 #[.int .i64 i] W fun e w' => e = .returned (.agg (wv m)) ∧ Below W.heap.size W w') := Lib.hid fun W => by have := wmask_c i W; rwa [hm0] at this
  have C7 : Hid (∀ W, Calls Tryd.prog 36 #[.int .i64 i] W fun e w' => e = .returned (.agg (wv m)) ∧ Below W.heap.size W w') := Lib.hid fun W => by have := rmask2_c i W; rwa [hm0] at this
  have C8 : Hid (∀ W, Calls Tryd.prog 37 #[.agg (wv (a)), .agg (wv (b))] W fun e w' => e = .returned (.agg (wv x)) ∧ Below W.heap.size W w') := Lib.hid fun W => by have := wand_c a b W; rwa [hx] at this
  have C9 : Hid (∀ W, Calls Tryd.prog 38 #[.agg (wv (a)), .agg (wv (b))] W fun e w' => e = .returned (.agg (wv x)) ∧ Below W.heap.size W w') := Lib.hid fun W => by have := rand2_c a b W; rwa [hx] at this
  have C10 : Hid (∀ W, Calls Tryd.prog 39 #[.agg (wv (a)), .agg (wv (b))] W fun e w' => e = .returned (.agg (wv y)) ∧ Below W.heap.size W w') := Lib.hid fun W => by have := wor_c a b W; rwa [hy] at this
  have C11 : Hid (∀ W, Calls Tryd.prog 40 #[.agg (wv (a)), .agg (wv (b))] W fun e w' => e = .returned (.agg (wv y)) ∧ Below W.heap.size W w') := Lib.hid fun W => by have := ror2_c a b W; rwa [hy] at this
  have C12 : Hid (∀ W, Calls Tryd.prog 41 #[.agg (wv (a))] W fun e w' => e = .returned (.agg (wv v)) ∧ Below W.heap.size W w') := Lib.hid fun W => by have := wnot_c a W ha; rwa [hv] at this
  have C13 : Hid (∀ W, Calls Tryd.prog 42 #[.agg (wv (a))] W fun e w' => e = .returned (.agg (wv v)) ∧ Below W.heap.size W w') := Lib.hid fun W => by have := rnot2_c a W ha; rwa [hv] at this
  have CA : Hid (∀ W, Calls Tryd.prog 29 #[] W fun e w' => e = .returned (.bool true) ∧ Below W.heap.size W w') := Lib.hid fun W => alive2_c W
  clear hl hz hu lm hm0 hx hy hv lx ly lv ha hb
  go_enter Tryd.func10, Tryd.ntmps10
  have HS0 := Lib.hid (((Ds.nil w).box (wv (a)) 24 (w.heap.size) rfl).box (wv (b)) 24 (w.heap.size + 1) (by simp))
  have g1_0 : Blk ((w.alloc (.cells (wv (a)) 24)).alloc (.cells (wv (b)) 24)) (w.heap.size + 1) (wv (b)) 24 := HS0.out.all 0 _ rfl
  have g1_1 : Blk ((w.alloc (.cells (wv (a)) 24)).alloc (.cells (wv (b)) 24)) (w.heap.size) (wv (a)) 24 := HS0.out.all 1 _ rfl
  have tb1 : Tab ((w.alloc (.cells (wv (a)) 24)).alloc (.cells (wv (b)) 24)) := HTab.out.below0 HS0.out.le
  go_wp2_with (first
    | (refine wpList_load_wv rfl 24 _ rfl _ rfl 24 _ _ (by with_reducible assumption) Tryd.underlying24 rfl (by kernel_rfl) ?_)
    | (refine wpList_load_wv_g rfl 24 _ rfl _ rfl 24 _ _ (by with_reducible assumption) Tryd.underlying24 rfl (by kernel_rfl) ?_))
  try simp only [Act.put]
  refine wp_region_sets_lit (fun S w' => Ds [(w.heap.size + 1, wv (b), 24), (w.heap.size, wv (a), 24)] w w') (by kernel_rfl) (by kernel_rfl) (HS0.out.drew) ?_
  obtain ⟨U, W, hW, hU⟩ := worlds (fun S w' => Ds [(w.heap.size + 1, wv (b), 24), (w.heap.size, wv (a), 24)] w w')
  replace hW := Lib.hid hW
  replace hU := Lib.hid hU
  repeat (refine sets_quiet (fun w' => ∃ u, w' = W u) hU.out rfl (fun _ _ _ h => h) rfl ?_; intro K hK; go_big_quiet_op; first | go_big_quiet_on | (refine ⟨_, fun _ => rfl, ?_⟩; go_big_quiet_on))
  refine sets_load_blk rfl (fun _ _ _ h => h) 24 _ rfl (w.heap.size) rfl 24 (wv (a)) _ (fun S w' _ h3 => h3.all 1 _ rfl) Tryd.underlying24 rfl (by first | (rw [wv_size]; kernel_rfl) | kernel_rfl) ?_
  simp only [Act.put, List.setIfInBounds_toArray, List.set_cons_succ, List.set_cons_zero]
  repeat (refine sets_quiet (fun w' => ∃ u, w' = W u) hU.out rfl (fun _ _ _ h => h) rfl ?_; intro K hK; go_big_quiet_op; first | go_big_quiet_on | (refine ⟨_, fun _ => rfl, ?_⟩; go_big_quiet_on))
  refine sets_call (.int .i64 (l : Nat)) rfl 21 _ _ rfl Tryd.f21 Tryd.func21 (by kernel_rfl) (by kernel_rfl) [.agg (wv (a))] rfl ?_ ?_
  · intro S w' h1 h2 h3
    refine (C0.out _).mono ?_
    rintro e w'' ⟨rfl, hb⟩
    exact ⟨rfl, h3.call hb⟩
  · simp only [Act.put, List.setIfInBounds_toArray, List.set_cons_succ, List.set_cons_zero]
    repeat (refine sets_quiet (fun w' => ∃ u, w' = W u) hU.out rfl (fun _ _ _ h => h) rfl ?_; intro K hK; go_big_quiet_op; first | go_big_quiet_on | (refine ⟨_, fun _ => rfl, ?_⟩; go_big_quiet_on))
    refine sets_load_blk rfl (fun _ _ _ h => h) 24 _ rfl (w.heap.size) rfl 24 (wv (a)) _ (fun S w' _ h3 => h3.all 1 _ rfl) Tryd.underlying24 rfl (by first | (rw [wv_size]; kernel_rfl) | kernel_rfl) ?_
    simp only [Act.put, List.setIfInBounds_toArray, List.set_cons_succ, List.set_cons_zero]
    repeat (refine sets_quiet (fun w' => ∃ u, w' = W u) hU.out rfl (fun _ _ _ h => h) rfl ?_; intro K hK; go_big_quiet_op; first | go_big_quiet_on | (refine ⟨_, fun _ => rfl, ?_⟩; go_big_quiet_on))
    refine sets_call (.int .i64 (l : Nat)) rfl 30 _ _ rfl Tryd.f30 Tryd.func30 (by kernel_rfl) (by kernel_rfl) [.agg (wv (a))] rfl ?_ ?_
    · intro S w' h1 h2 h3
      refine (C1.out _).mono ?_
      rintro e w'' ⟨rfl, hb⟩
      exact ⟨rfl, h3.call hb⟩
    · simp only [Act.put, List.setIfInBounds_toArray, List.set_cons_succ, List.set_cons_zero]
      repeat (refine sets_quiet (fun w' => ∃ u, w' = W u) hU.out rfl (fun _ _ _ h => h) rfl ?_; intro K hK; go_big_quiet_op; first | go_big_quiet_on | (refine ⟨_, fun _ => rfl, ?_⟩; go_big_quiet_on))
      refine sets_load_blk rfl (fun _ _ _ h => h) 24 _ rfl (w.heap.size) rfl 24 (wv (a)) _ (fun S w' _ h3 => h3.all 1 _ rfl) Tryd.underlying24 rfl (by first | (rw [wv_size]; kernel_rfl) | kernel_rfl) ?_
      simp only [Act.put, List.setIfInBounds_toArray, List.set_cons_succ, List.set_cons_zero]
      repeat (refine sets_quiet (fun w' => ∃ u, w' = W u) hU.out rfl (fun _ _ _ h => h) rfl ?_; intro K hK; go_big_quiet_op; first | go_big_quiet_on | (refine ⟨_, fun _ => rfl, ?_⟩; go_big_quiet_on))
      refine sets_call (.int .i64 (z : Nat)) rfl 31 _ _ rfl Tryd.f31 Tryd.func31 (by kernel_rfl) (by kernel_rfl) [.agg (wv (a))] rfl ?_ ?_
      · intro S w' h1 h2 h3
        refine (C2.out _ (HTab.out.below0 h3.le)).mono ?_
        rintro e w'' ⟨rfl, hb⟩
        exact ⟨rfl, h3.call hb⟩
      · simp only [Act.put, List.setIfInBounds_toArray, List.set_cons_succ, List.set_cons_zero]
        repeat (refine sets_quiet (fun w' => ∃ u, w' = W u) hU.out rfl (fun _ _ _ h => h) rfl ?_; intro K hK; go_big_quiet_op; first | go_big_quiet_on | (refine ⟨_, fun _ => rfl, ?_⟩; go_big_quiet_on))
        refine sets_load_blk rfl (fun _ _ _ h => h) 24 _ rfl (w.heap.size) rfl 24 (wv (a)) _ (fun S w' _ h3 => h3.all 1 _ rfl) Tryd.underlying24 rfl (by first | (rw [wv_size]; kernel_rfl) | kernel_rfl) ?_
        simp only [Act.put, List.setIfInBounds_toArray, List.set_cons_succ, List.set_cons_zero]
        repeat (refine sets_quiet (fun w' => ∃ u, w' = W u) hU.out rfl (fun _ _ _ h => h) rfl ?_; intro K hK; go_big_quiet_op; first | go_big_quiet_on | (refine ⟨_, fun _ => rfl, ?_⟩; go_big_quiet_on))
        refine sets_call (.int .i64 (z : Nat)) rfl 32 _ _ rfl Tryd.f32 Tryd.func32 (by kernel_rfl) (by kernel_rfl) [.agg (wv (a))] rfl ?_ ?_
        · intro S w' h1 h2 h3
          refine (C3.out _).mono ?_
          rintro e w'' ⟨rfl, hb⟩
          exact ⟨rfl, h3.call hb⟩
        · simp only [Act.put, List.setIfInBounds_toArray, List.set_cons_succ, List.set_cons_zero]
          repeat (refine sets_quiet (fun w' => ∃ u, w' = W u) hU.out rfl (fun _ _ _ h => h) rfl ?_; intro K hK; go_big_quiet_op; first | go_big_quiet_on | (refine ⟨_, fun _ => rfl, ?_⟩; go_big_quiet_on))
          refine sets_load_blk rfl (fun _ _ _ h => h) 24 _ rfl (w.heap.size) rfl 24 (wv (a)) _ (fun S w' _ h3 => h3.all 1 _ rfl) Tryd.underlying24 rfl (by first | (rw [wv_size]; kernel_rfl) | kernel_rfl) ?_
          simp only [Act.put, List.setIfInBounds_toArray, List.set_cons_succ, List.set_cons_zero]
          repeat (refine sets_quiet (fun w' => ∃ u, w' = W u) hU.out rfl (fun _ _ _ h => h) rfl ?_; intro K hK; go_big_quiet_op; first | go_big_quiet_on | (refine ⟨_, fun _ => rfl, ?_⟩; go_big_quiet_on))
          refine sets_call (.bool u) rfl 33 _ _ rfl Tryd.f33 Tryd.func33 (by kernel_rfl) (by kernel_rfl) [.agg (wv (a)), .int .i64 i] rfl ?_ ?_
          · intro S w' h1 h2 h3
            refine (C4.out _).mono ?_
            rintro e w'' ⟨rfl, hb⟩
            exact ⟨rfl, h3.call hb⟩
          · simp only [Act.put, List.setIfInBounds_toArray, List.set_cons_succ, List.set_cons_zero]
            repeat (refine sets_quiet (fun w' => ∃ u, w' = W u) hU.out rfl (fun _ _ _ h => h) rfl ?_; intro K hK; go_big_quiet_op; first | go_big_quiet_on | (refine ⟨_, fun _ => rfl, ?_⟩; go_big_quiet_on))
            refine sets_load_blk rfl (fun _ _ _ h => h) 24 _ rfl (w.heap.size) rfl 24 (wv (a)) _ (fun S w' _ h3 => h3.all 1 _ rfl) Tryd.underlying24 rfl (by first | (rw [wv_size]; kernel_rfl) | kernel_rfl) ?_
            simp only [Act.put, List.setIfInBounds_toArray, List.set_cons_succ, List.set_cons_zero]
            repeat (refine sets_quiet (fun w' => ∃ u, w' = W u) hU.out rfl (fun _ _ _ h => h) rfl ?_; intro K hK; go_big_quiet_op; first | go_big_quiet_on | (refine ⟨_, fun _ => rfl, ?_⟩; go_big_quiet_on))
            refine sets_call (.bool u) rfl 34 _ _ rfl Tryd.f34 Tryd.func34 (by kernel_rfl) (by kernel_rfl) [.agg (wv (a)), .int .i64 i] rfl ?_ ?_
            · intro S w' h1 h2 h3
              refine (C5.out _).mono ?_
              rintro e w'' ⟨rfl, hb⟩
              exact ⟨rfl, h3.call hb⟩
            · simp only [Act.put, List.setIfInBounds_toArray, List.set_cons_succ, List.set_cons_zero]
              repeat (refine sets_quiet (fun w' => ∃ u, w' = W u) hU.out rfl (fun _ _ _ h => h) rfl ?_; intro K hK; go_big_quiet_op; first | go_big_quiet_on | (refine ⟨_, fun _ => rfl, ?_⟩; go_big_quiet_on))
              refine sets_call (.agg (wv m)) rfl 35 _ _ rfl Tryd.f35 Tryd.func35 (by kernel_rfl) (by kernel_rfl) [.int .i64 i] rfl ?_ ?_
              · intro S w' h1 h2 h3
                refine (C6.out _).mono ?_
                rintro e w'' ⟨rfl, hb⟩
                exact ⟨rfl, h3.call hb⟩
              · simp only [Act.put, List.setIfInBounds_toArray, List.set_cons_succ, List.set_cons_zero]
                repeat (refine sets_quiet (fun w' => ∃ u, w' = W u) hU.out rfl (fun _ _ _ h => h) rfl ?_; intro K hK; go_big_quiet_op; first | go_big_quiet_on | (refine ⟨_, fun _ => rfl, ?_⟩; go_big_quiet_on))
                refine sets_call (.agg (wv m)) rfl 36 _ _ rfl Tryd.f36 Tryd.func36 (by kernel_rfl) (by kernel_rfl) [.int .i64 i] rfl ?_ ?_
                · intro S w' h1 h2 h3
                  refine (C7.out _).mono ?_
                  rintro e w'' ⟨rfl, hb⟩
                  exact ⟨rfl, h3.call hb⟩
                · simp only [Act.put, List.setIfInBounds_toArray, List.set_cons_succ, List.set_cons_zero]
                  repeat (refine sets_quiet (fun w' => ∃ u, w' = W u) hU.out rfl (fun _ _ _ h => h) rfl ?_; intro K hK; go_big_quiet_op; first | go_big_quiet_on | (refine ⟨_, fun _ => rfl, ?_⟩; go_big_quiet_on))
                  refine sets_load_blk rfl (fun _ _ _ h => h) 24 _ rfl (w.heap.size) rfl 24 (wv (a)) _ (fun S w' _ h3 => h3.all 1 _ rfl) Tryd.underlying24 rfl (by first | (rw [wv_size]; kernel_rfl) | kernel_rfl) ?_
                  simp only [Act.put, List.setIfInBounds_toArray, List.set_cons_succ, List.set_cons_zero]
                  repeat (refine sets_quiet (fun w' => ∃ u, w' = W u) hU.out rfl (fun _ _ _ h => h) rfl ?_; intro K hK; go_big_quiet_op; first | go_big_quiet_on | (refine ⟨_, fun _ => rfl, ?_⟩; go_big_quiet_on))
                  refine sets_load_blk rfl (fun _ _ _ h => h) 24 _ rfl (w.heap.size + 1) rfl 24 (wv (b)) _ (fun S w' _ h3 => h3.all 0 _ rfl) Tryd.underlying24 rfl (by first | (rw [wv_size]; kernel_rfl) | kernel_rfl) ?_
                  simp only [Act.put, List.setIfInBounds_toArray, List.set_cons_succ, List.set_cons_zero]
                  repeat (refine sets_quiet (fun w' => ∃ u, w' = W u) hU.out rfl (fun _ _ _ h => h) rfl ?_; intro K hK; go_big_quiet_op; first | go_big_quiet_on | (refine ⟨_, fun _ => rfl, ?_⟩; go_big_quiet_on))
                  refine sets_call (.agg (wv x)) rfl 37 _ _ rfl Tryd.f37 Tryd.func37 (by kernel_rfl) (by kernel_rfl) [.agg (wv (a)), .agg (wv (b))] rfl ?_ ?_
                  · intro S w' h1 h2 h3
                    refine (C8.out _).mono ?_
                    rintro e w'' ⟨rfl, hb⟩
                    exact ⟨rfl, h3.call hb⟩
                  · simp only [Act.put, List.setIfInBounds_toArray, List.set_cons_succ, List.set_cons_zero]
                    repeat (refine sets_quiet (fun w' => ∃ u, w' = W u) hU.out rfl (fun _ _ _ h => h) rfl ?_; intro K hK; go_big_quiet_op; first | go_big_quiet_on | (refine ⟨_, fun _ => rfl, ?_⟩; go_big_quiet_on))
                    refine sets_load_blk rfl (fun _ _ _ h => h) 24 _ rfl (w.heap.size) rfl 24 (wv (a)) _ (fun S w' _ h3 => h3.all 1 _ rfl) Tryd.underlying24 rfl (by first | (rw [wv_size]; kernel_rfl) | kernel_rfl) ?_
                    simp only [Act.put, List.setIfInBounds_toArray, List.set_cons_succ, List.set_cons_zero]
                    repeat (refine sets_quiet (fun w' => ∃ u, w' = W u) hU.out rfl (fun _ _ _ h => h) rfl ?_; intro K hK; go_big_quiet_op; first | go_big_quiet_on | (refine ⟨_, fun _ => rfl, ?_⟩; go_big_quiet_on))
                    refine sets_load_blk rfl (fun _ _ _ h => h) 24 _ rfl (w.heap.size + 1) rfl 24 (wv (b)) _ (fun S w' _ h3 => h3.all 0 _ rfl) Tryd.underlying24 rfl (by first | (rw [wv_size]; kernel_rfl) | kernel_rfl) ?_
                    simp only [Act.put, List.setIfInBounds_toArray, List.set_cons_succ, List.set_cons_zero]
                    repeat (refine sets_quiet (fun w' => ∃ u, w' = W u) hU.out rfl (fun _ _ _ h => h) rfl ?_; intro K hK; go_big_quiet_op; first | go_big_quiet_on | (refine ⟨_, fun _ => rfl, ?_⟩; go_big_quiet_on))
                    refine sets_call (.agg (wv x)) rfl 38 _ _ rfl Tryd.f38 Tryd.func38 (by kernel_rfl) (by kernel_rfl) [.agg (wv (a)), .agg (wv (b))] rfl ?_ ?_
                    · intro S w' h1 h2 h3
                      refine (C9.out _).mono ?_
                      rintro e w'' ⟨rfl, hb⟩
                      exact ⟨rfl, h3.call hb⟩
                    · simp only [Act.put, List.setIfInBounds_toArray, List.set_cons_succ, List.set_cons_zero]
                      repeat (refine sets_quiet (fun w' => ∃ u, w' = W u) hU.out rfl (fun _ _ _ h => h) rfl ?_; intro K hK; go_big_quiet_op; first | go_big_quiet_on | (refine ⟨_, fun _ => rfl, ?_⟩; go_big_quiet_on))
                      refine sets_load_blk rfl (fun _ _ _ h => h) 24 _ rfl (w.heap.size) rfl 24 (wv (a)) _ (fun S w' _ h3 => h3.all 1 _ rfl) Tryd.underlying24 rfl (by first | (rw [wv_size]; kernel_rfl) | kernel_rfl) ?_
                      simp only [Act.put, List.setIfInBounds_toArray, List.set_cons_succ, List.set_cons_zero]
                      repeat (refine sets_quiet (fun w' => ∃ u, w' = W u) hU.out rfl (fun _ _ _ h => h) rfl ?_; intro K hK; go_big_quiet_op; first | go_big_quiet_on | (refine ⟨_, fun _ => rfl, ?_⟩; go_big_quiet_on))
                      refine sets_load_blk rfl (fun _ _ _ h => h) 24 _ rfl (w.heap.size + 1) rfl 24 (wv (b)) _ (fun S w' _ h3 => h3.all 0 _ rfl) Tryd.underlying24 rfl (by first | (rw [wv_size]; kernel_rfl) | kernel_rfl) ?_
                      simp only [Act.put, List.setIfInBounds_toArray, List.set_cons_succ, List.set_cons_zero]
                      repeat (refine sets_quiet (fun w' => ∃ u, w' = W u) hU.out rfl (fun _ _ _ h => h) rfl ?_; intro K hK; go_big_quiet_op; first | go_big_quiet_on | (refine ⟨_, fun _ => rfl, ?_⟩; go_big_quiet_on))
                      refine sets_call (.agg (wv y)) rfl 39 _ _ rfl Tryd.f39 Tryd.func39 (by kernel_rfl) (by kernel_rfl) [.agg (wv (a)), .agg (wv (b))] rfl ?_ ?_
                      · intro S w' h1 h2 h3
                        refine (C10.out _).mono ?_
                        rintro e w'' ⟨rfl, hb⟩
                        exact ⟨rfl, h3.call hb⟩
                      · simp only [Act.put, List.setIfInBounds_toArray, List.set_cons_succ, List.set_cons_zero]
                        repeat (refine sets_quiet (fun w' => ∃ u, w' = W u) hU.out rfl (fun _ _ _ h => h) rfl ?_; intro K hK; go_big_quiet_op; first | go_big_quiet_on | (refine ⟨_, fun _ => rfl, ?_⟩; go_big_quiet_on))
                        refine sets_load_blk rfl (fun _ _ _ h => h) 24 _ rfl (w.heap.size) rfl 24 (wv (a)) _ (fun S w' _ h3 => h3.all 1 _ rfl) Tryd.underlying24 rfl (by first | (rw [wv_size]; kernel_rfl) | kernel_rfl) ?_
                        simp only [Act.put, List.setIfInBounds_toArray, List.set_cons_succ, List.set_cons_zero]
                        repeat (refine sets_quiet (fun w' => ∃ u, w' = W u) hU.out rfl (fun _ _ _ h => h) rfl ?_; intro K hK; go_big_quiet_op; first | go_big_quiet_on | (refine ⟨_, fun _ => rfl, ?_⟩; go_big_quiet_on))
                        refine sets_load_blk rfl (fun _ _ _ h => h) 24 _ rfl (w.heap.size + 1) rfl 24 (wv (b)) _ (fun S w' _ h3 => h3.all 0 _ rfl) Tryd.underlying24 rfl (by first | (rw [wv_size]; kernel_rfl) | kernel_rfl) ?_
                        simp only [Act.put, List.setIfInBounds_toArray, List.set_cons_succ, List.set_cons_zero]
                        repeat (refine sets_quiet (fun w' => ∃ u, w' = W u) hU.out rfl (fun _ _ _ h => h) rfl ?_; intro K hK; go_big_quiet_op; first | go_big_quiet_on | (refine ⟨_, fun _ => rfl, ?_⟩; go_big_quiet_on))
                        refine sets_call (.agg (wv y)) rfl 40 _ _ rfl Tryd.f40 Tryd.func40 (by kernel_rfl) (by kernel_rfl) [.agg (wv (a)), .agg (wv (b))] rfl ?_ ?_
                        · intro S w' h1 h2 h3
                          refine (C11.out _).mono ?_
                          rintro e w'' ⟨rfl, hb⟩
                          exact ⟨rfl, h3.call hb⟩
                        · simp only [Act.put, List.setIfInBounds_toArray, List.set_cons_succ, List.set_cons_zero]
                          repeat (refine sets_quiet (fun w' => ∃ u, w' = W u) hU.out rfl (fun _ _ _ h => h) rfl ?_; intro K hK; go_big_quiet_op; first | go_big_quiet_on | (refine ⟨_, fun _ => rfl, ?_⟩; go_big_quiet_on))
                          refine sets_load_blk rfl (fun _ _ _ h => h) 24 _ rfl (w.heap.size) rfl 24 (wv (a)) _ (fun S w' _ h3 => h3.all 1 _ rfl) Tryd.underlying24 rfl (by first | (rw [wv_size]; kernel_rfl) | kernel_rfl) ?_
                          simp only [Act.put, List.setIfInBounds_toArray, List.set_cons_succ, List.set_cons_zero]
                          repeat (refine sets_quiet (fun w' => ∃ u, w' = W u) hU.out rfl (fun _ _ _ h => h) rfl ?_; intro K hK; go_big_quiet_op; first | go_big_quiet_on | (refine ⟨_, fun _ => rfl, ?_⟩; go_big_quiet_on))
                          refine sets_call (.agg (wv v)) rfl 41 _ _ rfl Tryd.f41 Tryd.func41 (by kernel_rfl) (by kernel_rfl) [.agg (wv (a))] rfl ?_ ?_
                          · intro S w' h1 h2 h3
                            refine (C12.out _).mono ?_
                            rintro e w'' ⟨rfl, hb⟩
                            exact ⟨rfl, h3.call hb⟩
                          · simp only [Act.put, List.setIfInBounds_toArray, List.set_cons_succ, List.set_cons_zero]
                            repeat (refine sets_quiet (fun w' => ∃ u, w' = W u) hU.out rfl (fun _ _ _ h => h) rfl ?_; intro K hK; go_big_quiet_op; first | go_big_quiet_on | (refine ⟨_, fun _ => rfl, ?_⟩; go_big_quiet_on))
                            refine sets_load_blk rfl (fun _ _ _ h => h) 24 _ rfl (w.heap.size) rfl 24 (wv (a)) _ (fun S w' _ h3 => h3.all 1 _ rfl) Tryd.underlying24 rfl (by first | (rw [wv_size]; kernel_rfl) | kernel_rfl) ?_
                            simp only [Act.put, List.setIfInBounds_toArray, List.set_cons_succ, List.set_cons_zero]
                            repeat (refine sets_quiet (fun w' => ∃ u, w' = W u) hU.out rfl (fun _ _ _ h => h) rfl ?_; intro K hK; go_big_quiet_op; first | go_big_quiet_on | (refine ⟨_, fun _ => rfl, ?_⟩; go_big_quiet_on))
                            refine sets_call (.agg (wv v)) rfl 42 _ _ rfl Tryd.f42 Tryd.func42 (by kernel_rfl) (by kernel_rfl) [.agg (wv (a))] rfl ?_ ?_
                            · intro S w' h1 h2 h3
                              refine (C13.out _).mono ?_
                              rintro e w'' ⟨rfl, hb⟩
                              exact ⟨rfl, h3.call hb⟩
                            · simp only [Act.put, List.setIfInBounds_toArray, List.set_cons_succ, List.set_cons_zero]
                              repeat (refine sets_quiet (fun w' => ∃ u, w' = W u) hU.out rfl (fun _ _ _ h => h) rfl ?_; intro K hK; go_big_quiet_op; first | go_big_quiet_on | (refine ⟨_, fun _ => rfl, ?_⟩; go_big_quiet_on))
                              refine sets_call (.bool true) rfl 29 _ _ rfl Tryd.f29 Tryd.func29 (by kernel_rfl) (by kernel_rfl) [] rfl ?_ ?_
                              · intro S w' h1 h2 h3
                                refine (CA.out _).mono ?_
                                rintro e w'' ⟨rfl, hb⟩
                                exact ⟨rfl, h3.call hb⟩
                              · simp only [Act.put, List.setIfInBounds_toArray, List.set_cons_succ, List.set_cons_zero]
                                repeat (refine sets_quiet (fun w' => ∃ u, w' = W u) hU.out rfl (fun _ _ _ h => h) rfl ?_; intro K hK; go_big_quiet_op; first | go_big_quiet_on | (refine ⟨_, fun _ => rfl, ?_⟩; go_big_quiet_on))
                                intro S w' hS hI
                                clear hW hU
                                go_wp2
                                go_ret
                                exact ⟨rfl, hI.le⟩
end Go.Proofs.YtlpgflmjpdhpnaaDoor
