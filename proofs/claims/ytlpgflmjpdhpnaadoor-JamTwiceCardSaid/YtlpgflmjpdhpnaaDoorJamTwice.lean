/- The walk of the law JamTwice. -/
import Derived.Test.YtlpgflmjpdhpnaaDoorRows
import Derived.Test.YtlpgflmjpdhpnaaDoorG
import Derived.Test.YtlpgflmjpdhpnaaDoorJc
import Derived.Test.YtlpgflmjpdhpnaaDoorJp
namespace Go.Proofs.YtlpgflmjpdhpnaaDoor
open Go.RowKit
set_option maxHeartbeats 4000000
set_option maxRecDepth 100000
set_option linter.unusedVariables false
set_option linter.unusedSimpArgs false
set_option exponentiation.threshold 1000
set_option exponentiation.threshold 400
attribute [local irreducible] wv
theorem walk_JamTwice (a : Nat) (n k : Int) (ha : a < W384) (w : World) (hT : Tab w) : Calls Tryd.prog 4 #[.agg (wv (a)), .int .i64 n, .int .i64 k] w fun e w' => e = .returned (.bool true) ∧ Below w.heap.size w w' := by
  have HTab := Lib.hid hT
  clear hT
  obtain ⟨m, hm⟩ : ∃ m : Nat, n % 512 = (m : Int) := ⟨(n % 512).toNat, by omega⟩
  have lm : m ≤ 511 := by omega
  have Km : bits .and .i64 n 511 = (m : Int) := by rw [← hm]; exact and_i64 n 9 (by decide)
  obtain ⟨l, hl⟩ : ∃ m : Nat, k % 512 = (m : Int) := ⟨(k % 512).toNat, by omega⟩
  have ll : l ≤ 511 := by omega
  have Kl : bits .and .i64 k 511 = (l : Int) := by rw [← hl]; exact and_i64 k 9 (by decide)
  obtain ⟨s, hs⟩ : ∃ s, m + l = s := ⟨_, rfl⟩
  have KS : IntKind.i64.wrap ((m : Int) + (l : Int)) = (s : Int) := by rw [← hs, IntKind.wrap_i64]; omega
  have ly : jamR a s < W384 := jamR_lt ha
  have lx : jamR a m < W384 := jamR_lt ha
  obtain ⟨x, hx⟩ : ∃ x, jamR a m = x := ⟨_, rfl⟩
  have hy : jamR x l = jamR a s := by rw [← hx, jamR_twice, hs]
  obtain ⟨y, hy2⟩ : ∃ x, jamR a s = x := ⟨_, rfl⟩
  rw [hy2] at ly hy
  rw [hx] at lx
  have hm : Tryd.prog.eqGuardType Tryd.prog.depth 24 = false := by kernel_rfl
  have q0 : ∀ w, (binOp .eql 24 (.agg (wv (y))) (.agg (wv (y)))).run Tryd.prog w = .ok (.bool true) w := fun w => by
    have := run_eql_wv Tryd.underlying24 Tryd.underlying22 (by kernel_rfl) (y) (y) (ly) (ly) w
    rwa [decide_eq_true rfl] at this
  have C1 : Hid (∀ W, Tab W → Calls Tryd.prog 15 #[.agg (wv (a)), .int .i64 (m : Nat)] W fun e w' => e = .returned (.agg (wv (x))) ∧ Below W.heap.size W w') := Lib.hid fun W hT => by have := jright_c a m W ha hT; rwa [jamR_clamp ha, hx] at this
  have C2 : Hid (∀ W, Tab W → Calls Tryd.prog 15 #[.agg (wv (x)), .int .i64 (l : Nat)] W fun e w' => e = .returned (.agg (wv (y))) ∧ Below W.heap.size W w') := Lib.hid fun W hT => by have := jright_c x l W lx hT; rwa [jamR_clamp lx, hy] at this
  have C3 : Hid (∀ W, Tab W → Calls Tryd.prog 15 #[.agg (wv (a)), .int .i64 (s : Nat)] W fun e w' => e = .returned (.agg (wv (y))) ∧ Below W.heap.size W w') := Lib.hid fun W hT => by have := jright_c a s W ha hT; rwa [jamR_clamp ha, hy2] at this
  have CA : Hid (∀ W, Tab W → Calls Tryd.prog 14 #[] W fun e w' => e = .returned (.bool true) ∧ Below W.heap.size W w') := Lib.hid fun W hT => alive4_c W hT
  clear hs hx hy hy2 lx ly ha hl
  go_enter Tryd.func4, Tryd.ntmps4
  have HS0 := Lib.hid ((Ds.nil w).box (wv (a)) 24 (w.heap.size) rfl)
  have g1_0 : Blk (w.alloc (.cells (wv (a)) 24)) (w.heap.size) (wv (a)) 24 := HS0.out.all 0 _ rfl
  have tb1 : Tab (w.alloc (.cells (wv (a)) 24)) := HTab.out.below0 HS0.out.le
  go_wp2_with (first
    | (refine wpList_load_wv rfl 24 _ rfl _ rfl 24 _ _ (by with_reducible assumption) Tryd.underlying24 rfl (by kernel_rfl) ?_)
    | (refine wpList_load_wv_g rfl 24 _ rfl _ rfl 24 _ _ (by with_reducible assumption) Tryd.underlying24 rfl (by kernel_rfl) ?_))
  try simp only [Act.put]
  refine wp_region_sets_lit (fun S w' => Ds [(w.heap.size, wv (a), 24)] w w') (by kernel_rfl) (by kernel_rfl) (HS0.out.drew) ?_
  obtain ⟨U, W, hW, hU⟩ := worlds (fun S w' => Ds [(w.heap.size, wv (a), 24)] w w')
  replace hW := Lib.hid hW
  replace hU := Lib.hid hU
  repeat (refine sets_quiet (fun w' => ∃ u, w' = W u) hU.out rfl (fun _ _ _ h => h) rfl ?_; intro K hK; go_big_quiet_op; first | go_big_quiet_on | (refine ⟨_, fun _ => rfl, ?_⟩; go_big_quiet_on))
  refine sets_load_blk rfl (fun _ _ _ h => h) 24 _ rfl (w.heap.size) rfl 24 (wv (a)) _ (fun S w' _ h3 => h3.all 0 _ rfl) Tryd.underlying24 rfl (by first | (rw [wv_size]; kernel_rfl) | kernel_rfl) ?_
  simp only [Act.put, List.setIfInBounds_toArray, List.set_cons_succ, List.set_cons_zero]
  repeat (refine sets_quiet (fun w' => ∃ u, w' = W u) hU.out rfl (fun _ _ _ h => h) rfl ?_; intro K hK; go_big_quiet_op; first | go_big_quiet_on | (refine ⟨_, fun _ => rfl, ?_⟩; go_big_quiet_on))
  refine sets_call (.agg (wv (x))) rfl 15 _ _ rfl Tryd.f15 Tryd.func15 (by kernel_rfl) (by kernel_rfl) [.agg (wv (a)), .int .i64 (m : Nat)] rfl ?_ ?_
  · intro S w' h1 h2 h3
    refine (C1.out _ (HTab.out.below0 h3.le)).mono ?_
    rintro e w'' ⟨rfl, hb⟩
    exact ⟨rfl, h3.call hb⟩
  · simp only [Act.put, List.setIfInBounds_toArray, List.set_cons_succ, List.set_cons_zero]
    repeat (refine sets_quiet (fun w' => ∃ u, w' = W u) hU.out rfl (fun _ _ _ h => h) rfl ?_; intro K hK; go_big_quiet_op; first | go_big_quiet_on | (refine ⟨_, fun _ => rfl, ?_⟩; go_big_quiet_on))
    refine sets_call (.agg (wv (y))) rfl 15 _ _ rfl Tryd.f15 Tryd.func15 (by kernel_rfl) (by kernel_rfl) [.agg (wv (x)), .int .i64 (l : Nat)] rfl ?_ ?_
    · intro S w' h1 h2 h3
      refine (C2.out _ (HTab.out.below0 h3.le)).mono ?_
      rintro e w'' ⟨rfl, hb⟩
      exact ⟨rfl, h3.call hb⟩
    · simp only [Act.put, List.setIfInBounds_toArray, List.set_cons_succ, List.set_cons_zero]
      repeat (refine sets_quiet (fun w' => ∃ u, w' = W u) hU.out rfl (fun _ _ _ h => h) rfl ?_; intro K hK; go_big_quiet_op; first | go_big_quiet_on | (refine ⟨_, fun _ => rfl, ?_⟩; go_big_quiet_on))
      refine sets_load_blk rfl (fun _ _ _ h => h) 24 _ rfl (w.heap.size) rfl 24 (wv (a)) _ (fun S w' _ h3 => h3.all 0 _ rfl) Tryd.underlying24 rfl (by first | (rw [wv_size]; kernel_rfl) | kernel_rfl) ?_
      simp only [Act.put, List.setIfInBounds_toArray, List.set_cons_succ, List.set_cons_zero]
      repeat (refine sets_quiet (fun w' => ∃ u, w' = W u) hU.out rfl (fun _ _ _ h => h) rfl ?_; intro K hK; go_big_quiet_op; first | go_big_quiet_on | (refine ⟨_, fun _ => rfl, ?_⟩; go_big_quiet_on))
      refine sets_call (.agg (wv (y))) rfl 15 _ _ rfl Tryd.f15 Tryd.func15 (by kernel_rfl) (by kernel_rfl) [.agg (wv (a)), .int .i64 (s : Nat)] rfl ?_ ?_
      · intro S w' h1 h2 h3
        refine (C3.out _ (HTab.out.below0 h3.le)).mono ?_
        rintro e w'' ⟨rfl, hb⟩
        exact ⟨rfl, h3.call hb⟩
      · simp only [Act.put, List.setIfInBounds_toArray, List.set_cons_succ, List.set_cons_zero]
        repeat (refine sets_quiet (fun w' => ∃ u, w' = W u) hU.out rfl (fun _ _ _ h => h) rfl ?_; intro K hK; go_big_quiet_op; first | go_big_quiet_on | (refine ⟨_, fun _ => rfl, ?_⟩; go_big_quiet_on))
        refine sets_call (.bool true) rfl 14 _ _ rfl Tryd.f14 Tryd.func14 (by kernel_rfl) (by kernel_rfl) [] rfl ?_ ?_
        · intro S w' h1 h2 h3
          refine (CA.out _ (HTab.out.below0 h3.le)).mono ?_
          rintro e w'' ⟨rfl, hb⟩
          exact ⟨rfl, h3.call hb⟩
        · simp only [Act.put, List.setIfInBounds_toArray, List.set_cons_succ, List.set_cons_zero]
          repeat (refine sets_quiet (fun w' => ∃ u, w' = W u) hU.out rfl (fun _ _ _ h => h) rfl ?_; intro K hK; go_big_quiet_op; first | go_big_quiet_on | (refine ⟨_, fun _ => rfl, ?_⟩; go_big_quiet_on))
          intro S w' hS hI
          clear hW hU
          go_wp2
          go_ret
          exact ⟨rfl, hI.le⟩
end Go.Proofs.YtlpgflmjpdhpnaaDoor
