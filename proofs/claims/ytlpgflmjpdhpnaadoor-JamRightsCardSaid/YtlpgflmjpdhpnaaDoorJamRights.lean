/- The walk of the law JamRights. -/
import Derived.Test.YtlpgflmjpdhpnaaDoorRows
import Derived.Test.YtlpgflmjpdhpnaaDoorG
import Derived.Test.YtlpgflmjpdhpnaaDoorJc
import Derived.Test.YtlpgflmjpdhpnaaDoorJp
namespace Go.Proofs.YtlpgflmjpdhpnaaDoor
open Go.RowKit
set_option maxHeartbeats 4000000
set_option maxRecDepth 100000
set_option linter.unusedVariables false
set_option linter.unusedSimpArgs false
set_option exponentiation.threshold 1000
set_option exponentiation.threshold 400
attribute [local irreducible] wv
theorem walk_JamRights (a : Nat) (n : Int) (ha : a < W384) (w : World) (hT : Tab w) : Calls Tryd.prog 5 #[.agg (wv (a)), .int .i64 n] w fun e w' => e = .returned (.bool true) ∧ Below w.heap.size w w' := by
  have HTab := Lib.hid hT
  clear hT
  obtain ⟨c, hc⟩ : ∃ c, clamp n 384 = c := ⟨_, rfl⟩
  obtain ⟨x, hx⟩ : ∃ x, a / 2 ^ c = x := ⟨_, rfl⟩
  obtain ⟨u, hu⟩ : ∃ o, decide (a % 2 ^ c ≠ 0) = o := ⟨_, rfl⟩
  have lx : x < W384 := by rw [← hx]; exact Nat.lt_of_le_of_lt (Nat.div_le_self _ _) ha
  have ly : jamR a c < W384 := jamR_lt ha
  obtain ⟨y, hy⟩ : ∃ x, jamR a c = x := ⟨_, rfl⟩
  rw [hy] at ly
  have hm : Tryd.prog.eqGuardType Tryd.prog.depth 24 = false := by kernel_rfl
  have q0 : ∀ w, (binOp .eql 24 (.agg (wv (x))) (.agg (wv (x)))).run Tryd.prog w = .ok (.bool true) w := fun w => by
    have := run_eql_wv Tryd.underlying24 Tryd.underlying22 (by kernel_rfl) (x) (x) (lx) (lx) w
    rwa [decide_eq_true rfl] at this
  have q1 : ∀ w, (binOp .eql 24 (.agg (wv (y))) (.agg (wv (y)))).run Tryd.prog w = .ok (.bool true) w := fun w => by
    have := run_eql_wv Tryd.underlying24 Tryd.underlying22 (by kernel_rfl) (y) (y) (ly) (ly) w
    rwa [decide_eq_true rfl] at this
  have C1 : Hid (∀ W, Tab W → Calls Tryd.prog 16 #[.agg (wv (a)), .int .i64 n] W fun e w' => e = .returned (.tuple #[.agg (wv x), .bool u]) ∧ Below W.heap.size W w') := Lib.hid fun W hT => by have := jalign_c a n W ha hT; rwa [hc, hx, hu] at this
  have C2 : Hid (∀ W, Calls Tryd.prog 17 #[.agg (wv (a)), .int .i64 n] W fun e w' => e = .returned (.tuple #[.agg (wv x), .bool u]) ∧ Below W.heap.size W w') := Lib.hid fun W => by have := ralign4_c a n W ha; rwa [hc, hx, hu] at this
  have C3 : Hid (∀ W, Tab W → Calls Tryd.prog 15 #[.agg (wv (a)), .int .i64 n] W fun e w' => e = .returned (.agg (wv (y))) ∧ Below W.heap.size W w') := Lib.hid fun W hT => by have := jright_c a n W ha hT; rwa [hc, hy] at this
  have C4 : Hid (∀ W, Calls Tryd.prog 18 #[.agg (wv (a)), .int .i64 n] W fun e w' => e = .returned (.agg (wv (y))) ∧ Below W.heap.size W w') := Lib.hid fun W => by have := rright4_c a n W ha; rwa [hc, hy] at this
  have CA : Hid (∀ W, Tab W → Calls Tryd.prog 14 #[] W fun e w' => e = .returned (.bool true) ∧ Below W.heap.size W w') := Lib.hid fun W hT => alive4_c W hT
  clear hc hx hu hy lx ly ha
  go_enter Tryd.func5, Tryd.ntmps5
  have HS0 := Lib.hid ((Ds.nil w).box (wv (a)) 24 (w.heap.size) rfl)
  have g1_0 : Blk (w.alloc (.cells (wv (a)) 24)) (w.heap.size) (wv (a)) 24 := HS0.out.all 0 _ rfl
  have tb1 : Tab (w.alloc (.cells (wv (a)) 24)) := HTab.out.below0 HS0.out.le
  go_wp2_with (first
    | (refine wpList_load_wv rfl 24 _ rfl _ rfl 24 _ _ (by with_reducible assumption) Tryd.underlying24 rfl (by kernel_rfl) ?_)
    | (refine wpList_load_wv_g rfl 24 _ rfl _ rfl 24 _ _ (by with_reducible assumption) Tryd.underlying24 rfl (by kernel_rfl) ?_)
    | (go_at_call 16; (with_reducible refine (C1.out _ (by with_reducible assumption)).mono ?_); rintro e wc20 ⟨rfl, bc20⟩; clear C1; have H121 : Hid (Ds [(w.heap.size, wv (a), 24)] w wc20) := Lib.hid (HS0.out.call bc20); clear g1_0 tb1 bc20 HS0; have g2_0 : Blk wc20 (w.heap.size) (wv (a)) 24 := H121.out.all 0 _ rfl; have tb2 : Tab wc20 := HTab.out.below0 H121.out.le)
    | (refine wpList_store_wv rfl 24 _ _ rfl (wc20.heap.size) (x) rfl rfl 24 0 (Blk.zeroAt _ _ rfl) (by kernel_rfl) ?_; have H122 : Hid (Ds [(wc20.heap.size, wv (x), 24), (w.heap.size, wv (a), 24)] w ((wc20.alloc (.cells #[.int .u64 0, .int .u64 0, .int .u64 0, .int .u64 0, .int .u64 0, .int .u64 0] 24)).setRow wc20.heap.size (wv (x)))) := Lib.hid ((H121.out.box #[.int .u64 0, .int .u64 0, .int .u64 0, .int .u64 0, .int .u64 0, .int .u64 0] 24 _ rfl).setRow 0 (wv (x)) _ _ _ rfl); clear g2_0 tb2 H121; have g3_0 : Blk ((wc20.alloc (.cells #[.int .u64 0, .int .u64 0, .int .u64 0, .int .u64 0, .int .u64 0, .int .u64 0] 24)).setRow wc20.heap.size (wv (x))) (wc20.heap.size) (wv (x)) 24 := H122.out.all 0 _ rfl; have g3_1 : Blk ((wc20.alloc (.cells #[.int .u64 0, .int .u64 0, .int .u64 0, .int .u64 0, .int .u64 0, .int .u64 0] 24)).setRow wc20.heap.size (wv (x))) (w.heap.size) (wv (a)) 24 := H122.out.all 1 _ rfl; have tb3 : Tab ((wc20.alloc (.cells #[.int .u64 0, .int .u64 0, .int .u64 0, .int .u64 0, .int .u64 0, .int .u64 0] 24)).setRow wc20.heap.size (wv (x))) := HTab.out.below0 H122.out.le)
    | (go_at_call 17; (with_reducible refine (C2.out _).mono ?_); rintro e wc23 ⟨rfl, bc23⟩; clear C2; have H124 : Hid (Ds [(wc20.heap.size, wv (x), 24), (w.heap.size, wv (a), 24)] w wc23) := Lib.hid (H122.out.call bc23); clear g3_0 g3_1 tb3 bc23 H122; have g4_0 : Blk wc23 (wc20.heap.size) (wv (x)) 24 := H124.out.all 0 _ rfl; have g4_1 : Blk wc23 (w.heap.size) (wv (a)) 24 := H124.out.all 1 _ rfl; have tb4 : Tab wc23 := HTab.out.below0 H124.out.le)
    | (refine wpList_store_wv rfl 24 _ _ rfl (wc23.heap.size) (x) rfl rfl 24 0 (Blk.zeroAt _ _ rfl) (by kernel_rfl) ?_; have H125 : Hid (Ds [(wc23.heap.size, wv (x), 24), (wc20.heap.size, wv (x), 24), (w.heap.size, wv (a), 24)] w ((wc23.alloc (.cells #[.int .u64 0, .int .u64 0, .int .u64 0, .int .u64 0, .int .u64 0, .int .u64 0] 24)).setRow wc23.heap.size (wv (x)))) := Lib.hid ((H124.out.box #[.int .u64 0, .int .u64 0, .int .u64 0, .int .u64 0, .int .u64 0, .int .u64 0] 24 _ rfl).setRow 0 (wv (x)) _ _ _ rfl); clear g4_0 g4_1 tb4 H124; have g5_0 : Blk ((wc23.alloc (.cells #[.int .u64 0, .int .u64 0, .int .u64 0, .int .u64 0, .int .u64 0, .int .u64 0] 24)).setRow wc23.heap.size (wv (x))) (wc23.heap.size) (wv (x)) 24 := H125.out.all 0 _ rfl; have g5_1 : Blk ((wc23.alloc (.cells #[.int .u64 0, .int .u64 0, .int .u64 0, .int .u64 0, .int .u64 0, .int .u64 0] 24)).setRow wc23.heap.size (wv (x))) (wc20.heap.size) (wv (x)) 24 := H125.out.all 1 _ rfl; have g5_2 : Blk ((wc23.alloc (.cells #[.int .u64 0, .int .u64 0, .int .u64 0, .int .u64 0, .int .u64 0, .int .u64 0] 24)).setRow wc23.heap.size (wv (x))) (w.heap.size) (wv (a)) 24 := H125.out.all 2 _ rfl; have tb5 : Tab ((wc23.alloc (.cells #[.int .u64 0, .int .u64 0, .int .u64 0, .int .u64 0, .int .u64 0, .int .u64 0] 24)).setRow wc23.heap.size (wv (x))) := HTab.out.below0 H125.out.le))
  try simp only [Act.put]
  refine wp_region_sets_lit (fun S w' => Ds [(wc23.heap.size, wv (x), 24), (wc20.heap.size, wv (x), 24), (w.heap.size, wv (a), 24)] w w') (by kernel_rfl) (by kernel_rfl) (H125.out.drew) ?_
  obtain ⟨U, W, hW, hU⟩ := worlds (fun S w' => Ds [(wc23.heap.size, wv (x), 24), (wc20.heap.size, wv (x), 24), (w.heap.size, wv (a), 24)] w w')
  replace hW := Lib.hid hW
  replace hU := Lib.hid hU
  repeat (refine sets_quiet (fun w' => ∃ u, w' = W u) hU.out rfl (fun _ _ _ h => h) rfl ?_; intro K hK; go_big_quiet_op; first | go_big_quiet_on | (refine ⟨_, fun _ => rfl, ?_⟩; go_big_quiet_on))
  refine sets_load_blk rfl (fun _ _ _ h => h) 24 _ rfl (w.heap.size) rfl 24 (wv (a)) _ (fun S w' _ h3 => h3.all 2 _ rfl) Tryd.underlying24 rfl (by first | (rw [wv_size]; kernel_rfl) | kernel_rfl) ?_
  simp only [Act.put, List.setIfInBounds_toArray, List.set_cons_succ, List.set_cons_zero]
  repeat (refine sets_quiet (fun w' => ∃ u, w' = W u) hU.out rfl (fun _ _ _ h => h) rfl ?_; intro K hK; go_big_quiet_op; first | go_big_quiet_on | (refine ⟨_, fun _ => rfl, ?_⟩; go_big_quiet_on))
  refine sets_call (.agg (wv (y))) rfl 15 _ _ rfl Tryd.f15 Tryd.func15 (by kernel_rfl) (by kernel_rfl) [.agg (wv (a)), .int .i64 n] rfl ?_ ?_
  · intro S w' h1 h2 h3
    refine (C3.out _ (HTab.out.below0 h3.le)).mono ?_
    rintro e w'' ⟨rfl, hb⟩
    exact ⟨rfl, h3.call hb⟩
  · simp only [Act.put, List.setIfInBounds_toArray, List.set_cons_succ, List.set_cons_zero]
    repeat (refine sets_quiet (fun w' => ∃ u, w' = W u) hU.out rfl (fun _ _ _ h => h) rfl ?_; intro K hK; go_big_quiet_op; first | go_big_quiet_on | (refine ⟨_, fun _ => rfl, ?_⟩; go_big_quiet_on))
    refine sets_load_blk rfl (fun _ _ _ h => h) 24 _ rfl (w.heap.size) rfl 24 (wv (a)) _ (fun S w' _ h3 => h3.all 2 _ rfl) Tryd.underlying24 rfl (by first | (rw [wv_size]; kernel_rfl) | kernel_rfl) ?_
    simp only [Act.put, List.setIfInBounds_toArray, List.set_cons_succ, List.set_cons_zero]
    repeat (refine sets_quiet (fun w' => ∃ u, w' = W u) hU.out rfl (fun _ _ _ h => h) rfl ?_; intro K hK; go_big_quiet_op; first | go_big_quiet_on | (refine ⟨_, fun _ => rfl, ?_⟩; go_big_quiet_on))
    refine sets_call (.agg (wv (y))) rfl 18 _ _ rfl Tryd.f18 Tryd.func18 (by kernel_rfl) (by kernel_rfl) [.agg (wv (a)), .int .i64 n] rfl ?_ ?_
    · intro S w' h1 h2 h3
      refine (C4.out _).mono ?_
      rintro e w'' ⟨rfl, hb⟩
      exact ⟨rfl, h3.call hb⟩
    · simp only [Act.put, List.setIfInBounds_toArray, List.set_cons_succ, List.set_cons_zero]
      repeat (refine sets_quiet (fun w' => ∃ u, w' = W u) hU.out rfl (fun _ _ _ h => h) rfl ?_; intro K hK; go_big_quiet_op; first | go_big_quiet_on | (refine ⟨_, fun _ => rfl, ?_⟩; go_big_quiet_on))
      refine sets_load_blk rfl (fun _ _ _ h => h) 24 _ rfl (wc20.heap.size) rfl 24 (wv (x)) _ (fun S w' _ h3 => h3.all 1 _ rfl) Tryd.underlying24 rfl (by first | (rw [wv_size]; kernel_rfl) | kernel_rfl) ?_
      simp only [Act.put, List.setIfInBounds_toArray, List.set_cons_succ, List.set_cons_zero]
      repeat (refine sets_quiet (fun w' => ∃ u, w' = W u) hU.out rfl (fun _ _ _ h => h) rfl ?_; intro K hK; go_big_quiet_op; first | go_big_quiet_on | (refine ⟨_, fun _ => rfl, ?_⟩; go_big_quiet_on))
      refine sets_load_blk rfl (fun _ _ _ h => h) 24 _ rfl (wc23.heap.size) rfl 24 (wv (x)) _ (fun S w' _ h3 => h3.all 0 _ rfl) Tryd.underlying24 rfl (by first | (rw [wv_size]; kernel_rfl) | kernel_rfl) ?_
      simp only [Act.put, List.setIfInBounds_toArray, List.set_cons_succ, List.set_cons_zero]
      repeat (refine sets_quiet (fun w' => ∃ u, w' = W u) hU.out rfl (fun _ _ _ h => h) rfl ?_; intro K hK; go_big_quiet_op; first | go_big_quiet_on | (refine ⟨_, fun _ => rfl, ?_⟩; go_big_quiet_on))
      refine sets_call (.bool true) rfl 14 _ _ rfl Tryd.f14 Tryd.func14 (by kernel_rfl) (by kernel_rfl) [] rfl ?_ ?_
      · intro S w' h1 h2 h3
        refine (CA.out _ (HTab.out.below0 h3.le)).mono ?_
        rintro e w'' ⟨rfl, hb⟩
        exact ⟨rfl, h3.call hb⟩
      · simp only [Act.put, List.setIfInBounds_toArray, List.set_cons_succ, List.set_cons_zero]
        repeat (refine sets_quiet (fun w' => ∃ u, w' = W u) hU.out rfl (fun _ _ _ h => h) rfl ?_; intro K hK; go_big_quiet_op; first | go_big_quiet_on | (refine ⟨_, fun _ => rfl, ?_⟩; go_big_quiet_on))
        intro S w' hS hI
        clear hW hU
        go_wp2
        go_ret
        exact ⟨rfl, hI.le⟩
end Go.Proofs.YtlpgflmjpdhpnaaDoor
