/- The walk of the law WideTexts. -/
import Derived.Test.YtlpgflmjpdhpnaaRows
import Derived.Test.YtlpgflmjpdhpnaaE
import Derived.Test.YtlpgflmjpdhpnaaXf
import Derived.Test.YtlpgflmjpdhpnaaXe
import Derived.Test.YtlpgflmjpdhpnaaXl
import Derived.Test.YtlpgflmjpdhpnaaYd
import Derived.Test.YtlpgflmjpdhpnaaYe
namespace Go.Proofs.Ytlpgflmjpdhpnaa
open Go.RowKit
set_option maxHeartbeats 4000000
set_option maxRecDepth 100000
set_option linter.unusedVariables false
set_option linter.unusedSimpArgs false
attribute [local irreducible] wv
theorem walk_WideTexts (a : Nat) (s : ByteArray) (ha : a < W384) (hs : s.size ≤ maxLen) (w : World) : Calls Try.prog 10 #[.agg (wv a), .string s] w fun e w' => e = .returned (.bool true) ∧ Below w.heap.size w w' := by
  obtain ⟨x, hx⟩ : ∃ z, readV s.data.toList = z := ⟨_, rfl⟩
  obtain ⟨e0, he⟩ : ∃ z, readE s.data.toList = z := ⟨_, rfl⟩
  obtain ⟨tx, ht⟩ : ∃ z, (⟨(textL a (txtN a)).toArray⟩ : ByteArray) = z := ⟨_, rfl⟩
  have lx : x < W384 := by rw [← hx]; exact readV_lt _
  have hm : Try.prog.eqGuardType Try.prog.depth 24 = false := by kernel_rfl
  have q0 : ∀ w, (binOp .eql 24 (.agg (wv (x))) (.agg (wv (x)))).run Try.prog w = .ok (.bool true) w := fun w => by
    have := run_eql_wv Try.underlying24 Try.underlying22 (by kernel_rfl) (x) (x) (lx) (lx) w
    rwa [decide_eq_true rfl] at this
  have C0 : Hid (∀ W, Calls Try.prog 36 #[.string s] W fun e w' => e = .returned (.tuple #[.agg (wv x), .int .i64 (e0 : Nat)]) ∧ Below W.heap.size W w') := Lib.hid (fun W => by have := wread_c s W hs; rwa [hx, he] at this)
  have C1 : Hid (∀ W, Calls Try.prog 37 #[.string s] W fun e w' => e = .returned (.tuple #[.agg (wv x), .int .i64 (e0 : Nat)]) ∧ Below W.heap.size W w') := Lib.hid (fun W => by have := rread2_c s W hs; rwa [hx, he] at this)
  have C2 : Hid (∀ W, Calls Try.prog 38 #[.agg (wv a)] W fun e w' => e = .returned (.string tx) ∧ Below W.heap.size W w') := Lib.hid (fun W => by have := wtext_c a W ha; rwa [ht] at this)
  have C3 : Hid (∀ W, Calls Try.prog 39 #[.agg (wv a)] W fun e w' => e = .returned (.string tx) ∧ Below W.heap.size W w') := Lib.hid (fun W => by have := rtext2_c a W ha; rwa [ht] at this)
  have C4 : Hid (∀ W, Calls Try.prog 16 #[] W fun e w' => e = .returned (.bool true) ∧ Below W.heap.size W w') := Lib.hid (fun W => alive2_c W)
  clear hx he ht lx ha hs
  go_enter Try.func10, Try.ntmps10
  have HS0 := Lib.hid ((Bs.nil w).box (wv a) 24 w.heap.size rfl)
  go_wp2_with (first
    | (refine wpList_store_wv rfl 24 _ _ rfl _ _ rfl rfl 24 _ (Blk.zeroAt _ _ rfl) (by kernel_rfl) ?_)
    | (go_at_call 36; (with_reducible refine (C0.out _).mono ?_); rintro e w0 ⟨rfl, b0⟩; have HS1 : Hid (Bs _ w ((w0.alloc (.cells #[.int .u64 0, .int .u64 0, .int .u64 0, .int .u64 0, .int .u64 0, .int .u64 0] 24)).setRow w0.heap.size (wv x))) := Lib.hid (HS0.out.next b0 (wv x) _ 24); clear b0 HS0)
    | (go_at_call 37; (with_reducible refine (C1.out _).mono ?_); rintro e w1 ⟨rfl, b1⟩; have HS2 : Hid (Bs _ w ((w1.alloc (.cells #[.int .u64 0, .int .u64 0, .int .u64 0, .int .u64 0, .int .u64 0, .int .u64 0] 24)).setRow w1.heap.size (wv x))) := Lib.hid (HS1.out.next b1 (wv x) _ 24); clear b1 HS1))
  refine wp_region_sets_lit (fun S w' => Bs [(w1.heap.size, wv x, 24), (w0.heap.size, wv x, 24), (w.heap.size, wv a, 24)] w w') (by kernel_rfl) (by kernel_rfl) (HS2.out.drew) ?_
  obtain ⟨U, W, hW, hU⟩ := worlds (fun S w' => Bs [(w1.heap.size, wv x, 24), (w0.heap.size, wv x, 24), (w.heap.size, wv a, 24)] w w')
  replace hW := Lib.hid hW
  replace hU := Lib.hid hU
  repeat (refine sets_quiet (fun w' => ∃ u, w' = W u) hU.out rfl (fun _ _ _ h => h) rfl ?_; intro K hK; go_big_quiet_op; first | go_big_quiet_on | (refine ⟨_, fun _ => rfl, ?_⟩; go_big_quiet_on))
  refine sets_load_blk rfl (fun _ _ _ h => h) 24 _ rfl (w.heap.size) rfl 24 (wv a) _ (fun S w' _ h3 => h3.all 2 _ rfl) Try.underlying24 rfl (by first | (rw [wv_size]; kernel_rfl) | kernel_rfl) ?_
  simp only [Act.put, List.setIfInBounds_toArray, List.set_cons_succ, List.set_cons_zero]
  repeat (refine sets_quiet (fun w' => ∃ u, w' = W u) hU.out rfl (fun _ _ _ h => h) rfl ?_; intro K hK; go_big_quiet_op; first | go_big_quiet_on | (refine ⟨_, fun _ => rfl, ?_⟩; go_big_quiet_on))
  refine sets_call (.string tx) rfl 38 _ _ rfl Try.f38 Try.func38 (by kernel_rfl) (by kernel_rfl) [.agg (wv a)] rfl ?_ ?_
  · intro S w' h1 h2 h3
    refine (C2.out _).mono ?_
    rintro e w'' ⟨rfl, hb⟩
    exact ⟨rfl, h3.call hb⟩
  · simp only [Act.put, List.setIfInBounds_toArray, List.set_cons_succ, List.set_cons_zero]
    repeat (refine sets_quiet (fun w' => ∃ u, w' = W u) hU.out rfl (fun _ _ _ h => h) rfl ?_; intro K hK; go_big_quiet_op; first | go_big_quiet_on | (refine ⟨_, fun _ => rfl, ?_⟩; go_big_quiet_on))
    refine sets_load_blk rfl (fun _ _ _ h => h) 24 _ rfl (w.heap.size) rfl 24 (wv a) _ (fun S w' _ h3 => h3.all 2 _ rfl) Try.underlying24 rfl (by first | (rw [wv_size]; kernel_rfl) | kernel_rfl) ?_
    simp only [Act.put, List.setIfInBounds_toArray, List.set_cons_succ, List.set_cons_zero]
    repeat (refine sets_quiet (fun w' => ∃ u, w' = W u) hU.out rfl (fun _ _ _ h => h) rfl ?_; intro K hK; go_big_quiet_op; first | go_big_quiet_on | (refine ⟨_, fun _ => rfl, ?_⟩; go_big_quiet_on))
    refine sets_call (.string tx) rfl 39 _ _ rfl Try.f39 Try.func39 (by kernel_rfl) (by kernel_rfl) [.agg (wv a)] rfl ?_ ?_
    · intro S w' h1 h2 h3
      refine (C3.out _).mono ?_
      rintro e w'' ⟨rfl, hb⟩
      exact ⟨rfl, h3.call hb⟩
    · simp only [Act.put, List.setIfInBounds_toArray, List.set_cons_succ, List.set_cons_zero]
      repeat (refine sets_quiet (fun w' => ∃ u, w' = W u) hU.out rfl (fun _ _ _ h => h) rfl ?_; intro K hK; go_big_quiet_op; first | go_big_quiet_on | (refine ⟨_, fun _ => rfl, ?_⟩; go_big_quiet_on))
      refine sets_load_blk rfl (fun _ _ _ h => h) 24 _ rfl (w0.heap.size) rfl 24 (wv x) _ (fun S w' _ h3 => h3.all 1 _ rfl) Try.underlying24 rfl (by first | (rw [wv_size]; kernel_rfl) | kernel_rfl) ?_
      simp only [Act.put, List.setIfInBounds_toArray, List.set_cons_succ, List.set_cons_zero]
      repeat (refine sets_quiet (fun w' => ∃ u, w' = W u) hU.out rfl (fun _ _ _ h => h) rfl ?_; intro K hK; go_big_quiet_op; first | go_big_quiet_on | (refine ⟨_, fun _ => rfl, ?_⟩; go_big_quiet_on))
      refine sets_load_blk rfl (fun _ _ _ h => h) 24 _ rfl (w1.heap.size) rfl 24 (wv x) _ (fun S w' _ h3 => h3.all 0 _ rfl) Try.underlying24 rfl (by first | (rw [wv_size]; kernel_rfl) | kernel_rfl) ?_
      simp only [Act.put, List.setIfInBounds_toArray, List.set_cons_succ, List.set_cons_zero]
      repeat (refine sets_quiet (fun w' => ∃ u, w' = W u) hU.out rfl (fun _ _ _ h => h) rfl ?_; intro K hK; go_big_quiet_op; first | go_big_quiet_on | (refine ⟨_, fun _ => rfl, ?_⟩; go_big_quiet_on))
      refine sets_call (.bool true) rfl 16 _ _ rfl Try.f16 Try.func16 (by kernel_rfl) (by kernel_rfl) [] rfl ?_ ?_
      · intro S w' h1 h2 h3
        refine (C4.out _).mono ?_
        rintro e w'' ⟨rfl, hb⟩
        exact ⟨rfl, h3.call hb⟩
      · simp only [Act.put, List.setIfInBounds_toArray, List.set_cons_succ, List.set_cons_zero]
        repeat (refine sets_quiet (fun w' => ∃ u, w' = W u) hU.out rfl (fun _ _ _ h => h) rfl ?_; intro K hK; go_big_quiet_op; first | go_big_quiet_on | (refine ⟨_, fun _ => rfl, ?_⟩; go_big_quiet_on))
        intro S w' hS hI
        clear hW hU
        go_wp2
        go_ret
        exact ⟨rfl, hI.le⟩
end Go.Proofs.Ytlpgflmjpdhpnaa
