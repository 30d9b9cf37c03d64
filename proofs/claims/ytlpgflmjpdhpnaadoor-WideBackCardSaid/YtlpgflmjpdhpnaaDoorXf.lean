/- The contract of abacuslaw02.alive. -/
import Derived.Test.YtlpgflmjpdhpnaaDoorRows
import Derived.Test.YtlpgflmjpdhpnaaDoorE
import Derived.Test.YtlpgflmjpdhpnaaDoorXa
import Derived.Test.YtlpgflmjpdhpnaaDoorXb
import Derived.Test.YtlpgflmjpdhpnaaDoorXd
import Derived.Test.YtlpgflmjpdhpnaaDoorXe
namespace Go.Proofs.YtlpgflmjpdhpnaaDoor
open Go.RowKit
set_option maxHeartbeats 4000000
set_option maxRecDepth 100000
set_option linter.unusedVariables false
set_option linter.unusedSimpArgs false
attribute [local irreducible] wv
theorem alive2_c (w : World) : Calls Tryd.prog 29 #[] w fun e w' => e = .returned (.bool true) ∧ Below w.heap.size w w' := by
  have C1 : Hid (∀ W, Calls Tryd.prog 41 #[.agg #[.int .u64 0, .int .u64 0, .int .u64 0, .int .u64 0, .int .u64 0, .int .u64 0]] W fun e w' => e = .returned (.agg (wv (notW 0))) ∧ Below W.heap.size W w') := Lib.hid (fun W => by rw [← wv_zero]; exact wnot_c 0 W (by decide +kernel))
  have C2 : Hid (∀ W, Calls Tryd.prog 25 #[.int .u64 1] W fun e w' => e = .returned (.agg (wv 1)) ∧ Below W.heap.size W w') := Lib.hid (fun W => wof_c 1 W (by decide))
  have C3 : Hid (∀ W, Calls Tryd.prog 25 #[.int .u64 3] W fun e w' => e = .returned (.agg (wv 3)) ∧ Below W.heap.size W w') := Lib.hid (fun W => wof_c 3 W (by decide))
  have C4 : Hid (∀ W, Calls Tryd.prog 25 #[.int .u64 5] W fun e w' => e = .returned (.agg (wv 5)) ∧ Below W.heap.size W w') := Lib.hid (fun W => wof_c 5 W (by decide))
  have C5 : Hid (∀ W, Calls Tryd.prog 49 #[.agg (wv (notW 0)), .agg (wv 1)] W fun e w' => e = .returned (.tuple #[.agg (wv 0), .bool true]) ∧ Below W.heap.size W w') := Lib.hid (fun W => by
    have := wadd_c (notW 0) 1 W (by decide +kernel) (by decide +kernel)
    rwa [show addW (notW 0) 1 = 0 by decide +kernel, show decide (W384 ≤ notW 0 + 1) = true by decide +kernel] at this)
  have C6 : Hid (∀ W, Calls Tryd.prog 50 #[.agg (wv 3), .agg (wv 5)] W fun e w' => e = .returned (.tuple #[.agg (wv 15), .bool false]) ∧ Below W.heap.size W w') := Lib.hid (fun W => by
    have := wmul_c 3 5 W (by decide +kernel) (by decide +kernel)
    rwa [show mulW 3 5 = 15 by decide +kernel, show decide (W384 ≤ 3 * 5) = false by decide +kernel] at this)
  go_enter Tryd.func29, Tryd.ntmps29
  go_wp2_with (first
    | (go_at_call 41; (with_reducible refine (C1.out _).mono ?_); rintro e w1 ⟨rfl, b1⟩)
    | (go_at_call 25; (with_reducible refine (C2.out _).mono ?_); rintro e w2 ⟨rfl, b2⟩)
    | (go_at_call 25; (with_reducible refine (C3.out _).mono ?_); rintro e w3 ⟨rfl, b3⟩)
    | (go_at_call 25; (with_reducible refine (C4.out _).mono ?_); rintro e w4 ⟨rfl, b4⟩)
    | (go_at_call 49; (with_reducible refine (C5.out _).mono ?_); rintro e w5 ⟨rfl, b5⟩)
    | (go_at_call 50; (with_reducible refine (C6.out _).mono ?_); rintro e w6 ⟨rfl, b6⟩)
    | (refine wpList_store_wv rfl 24 _ _ rfl _ _ rfl rfl 24 _ (by (repeat (first | with_reducible assumption | with_reducible refine Blk.drew ?_ | with_reducible refine Blk.drewN ?_ _ | (with_reducible refine Blk.zeroAt _ _ ?_; (first | (simp; done) | omega | (simp; omega))) | (with_reducible refine Blk.newAt _ _ _ ?_; (first | (simp; done) | omega | (simp; omega))) | with_reducible refine Blk.alloc ?_ _ | with_reducible refine Has.row ?_ _ | (with_reducible refine Blk.rowOther ?_ _ ?_; rotate_left; focus ((first | (simp; done) | omega | (simp; omega)); done)) | (with_reducible refine Has.newAt _ _ _ ?_; (first | (simp; done) | omega | (simp; omega))) | (with_reducible refine Blk.has ?_; with_reducible assumption) | with_reducible refine Has.drew ?_ | with_reducible refine Has.alloc ?_ _ | with_reducible refine Has.setRow ?_ _ _ | (with_reducible apply Has.belowR; (with_reducible assumption); focus ((first | (simp; done) | omega | (simp; omega)); done)) | (with_reducible apply Blk.belowR; (with_reducible assumption); focus ((first | (simp; done) | omega | (simp; omega)); done))))) (by kernel_rfl) ?_))
  have z1 := b1.size
  have z2 := b2.size
  have z5 := b5.size
  have z3 := b3.size
  have z4 := b4.size
  have z6 := b6.size
  simp at z3
  have g1 : Blk ((w6.alloc (.cells #[.int .u64 0, .int .u64 0, .int .u64 0, .int .u64 0, .int .u64 0, .int .u64 0] 24)).setRow w6.heap.size (wv 15)) w5.heap.size (wv 0) 24 := by (repeat (first | with_reducible assumption | with_reducible refine Blk.drew ?_ | with_reducible refine Blk.drewN ?_ _ | (with_reducible refine Blk.zeroAt _ _ ?_; (first | (simp; done) | omega | (simp; omega))) | (with_reducible refine Blk.newAt _ _ _ ?_; (first | (simp; done) | omega | (simp; omega))) | with_reducible refine Blk.alloc ?_ _ | with_reducible refine Has.row ?_ _ | (with_reducible refine Blk.rowOther ?_ _ ?_; rotate_left; focus ((first | (simp; done) | omega | (simp; omega)); done)) | (with_reducible refine Has.newAt _ _ _ ?_; (first | (simp; done) | omega | (simp; omega))) | (with_reducible refine Blk.has ?_; with_reducible assumption) | with_reducible refine Has.drew ?_ | with_reducible refine Has.alloc ?_ _ | with_reducible refine Has.setRow ?_ _ _ | (with_reducible apply Has.belowR; (with_reducible assumption); focus ((first | (simp; done) | omega | (simp; omega)); done)) | (with_reducible apply Blk.belowR; (with_reducible assumption); focus ((first | (simp; done) | omega | (simp; omega)); done))))
  have g2 : Blk ((w6.alloc (.cells #[.int .u64 0, .int .u64 0, .int .u64 0, .int .u64 0, .int .u64 0, .int .u64 0] 24)).setRow w6.heap.size (wv 15)) w6.heap.size (wv 15) 24 := by (repeat (first | with_reducible assumption | with_reducible refine Blk.drew ?_ | with_reducible refine Blk.drewN ?_ _ | (with_reducible refine Blk.zeroAt _ _ ?_; (first | (simp; done) | omega | (simp; omega))) | (with_reducible refine Blk.newAt _ _ _ ?_; (first | (simp; done) | omega | (simp; omega))) | with_reducible refine Blk.alloc ?_ _ | with_reducible refine Has.row ?_ _ | (with_reducible refine Blk.rowOther ?_ _ ?_; rotate_left; focus ((first | (simp; done) | omega | (simp; omega)); done)) | (with_reducible refine Has.newAt _ _ _ ?_; (first | (simp; done) | omega | (simp; omega))) | (with_reducible refine Blk.has ?_; with_reducible assumption) | with_reducible refine Has.drew ?_ | with_reducible refine Has.alloc ?_ _ | with_reducible refine Has.setRow ?_ _ _ | (with_reducible apply Has.belowR; (with_reducible assumption); focus ((first | (simp; done) | omega | (simp; omega)); done)) | (with_reducible apply Blk.belowR; (with_reducible assumption); focus ((first | (simp; done) | omega | (simp; omega)); done))))
  have g3 : Below w.heap.size w ((w6.alloc (.cells #[.int .u64 0, .int .u64 0, .int .u64 0, .int .u64 0, .int .u64 0, .int .u64 0] 24)).setRow w6.heap.size (wv 15)) := by (repeat (first | with_reducible assumption | with_reducible exact Below.refl _ _ | with_reducible refine Below.drew ?_ | with_reducible refine below_drewN ?_ | (with_reducible refine below_allocR ?_ ?_ _; focus ((first | (simp; done) | omega | (simp; omega)); done)) | (with_reducible refine below_setRowR ?_ ?_ _; focus ((first | (simp; done) | omega | (simp; omega)); done)) | (with_reducible apply below_after; (with_reducible assumption); focus ((first | (simp; done) | omega | (simp; omega)); done))))
  clear z1 z2 z3 z4 z5 z6 b1 b2 b3 b4 b5 b6
  have hm : Tryd.prog.eqGuardType Tryd.prog.depth 24 = false := by kernel_rfl
  have q1 : ∀ w, (binOp .eql 24 (.agg (wv 0)) (.agg #[.int .u64 0, .int .u64 0, .int .u64 0, .int .u64 0, .int .u64 0, .int .u64 0])).run Tryd.prog w = .ok (.bool true) w := fun w => by
    rw [← wv_zero]
    exact run_eql_wv Tryd.underlying24 Tryd.underlying22 (by kernel_rfl) 0 0 (by decide +kernel) (by decide +kernel) w
  have q2 : ∀ w, (binOp .eql 24 (.agg (wv 15)) (.agg (wv 15))).run Tryd.prog w = .ok (.bool true) w := fun w => run_eql_wv Tryd.underlying24 Tryd.underlying22 (by kernel_rfl) 15 15 (by decide +kernel) (by decide +kernel) w
  have C7 : Hid (∀ W, Calls Tryd.prog 25 #[.int .u64 15] W fun e w' => e = .returned (.agg (wv 15)) ∧ Below W.heap.size W w') := Lib.hid (fun W => wof_c 15 W (by decide))
  have C8 : Hid (∀ W, Calls Tryd.prog 25 #[.int .u64 255] W fun e w' => e = .returned (.agg (wv 255)) ∧ Below W.heap.size W w') := Lib.hid (fun W => wof_c 255 W (by decide))
  have C9 : Hid (∀ W, Calls Tryd.prog 44 #[.agg (wv 255)] W fun e w' => e = .returned (.string ⟨#[102, 102]⟩) ∧ Below W.heap.size W w') := Lib.hid (fun W => by
    have := wtext_c 255 W (by decide +kernel)
    rwa [show textL 255 (txtN 255) = [102, 102] by decide +kernel] at this)
  refine wp_region_sets_lit (fun S w' => Blk w' w5.heap.size (wv 0) 24 ∧ Blk w' w6.heap.size (wv 15) 24 ∧ Below w.heap.size w w') (by kernel_rfl) (by kernel_rfl) (⟨g1.drew, g2.drew, g3.drew⟩) ?_
  obtain ⟨U, W, hW, hU⟩ := worlds (fun S w' => Blk w' w5.heap.size (wv 0) 24 ∧ Blk w' w6.heap.size (wv 15) 24 ∧ Below w.heap.size w w')
  have c1 : ∀ u, (W u).cell? ⟨w6.heap.size, 0, none⟩ = some (.int .u64 15) := fun u => by obtain ⟨S, h⟩ := hW u; exact (h.2.1.cell 0).trans ((wv_get 15 0 (by decide)).trans (by rw [show limb 15 0 = 15 by decide +kernel]; rfl))
  replace hW := Lib.hid hW
  replace hU := Lib.hid hU
  repeat (refine sets_quiet (fun w' => ∃ u, w' = W u) hU.out rfl (fun _ _ _ h => h) rfl ?_; intro K hK; go_big_quiet_op; first | go_big_quiet_on | (refine ⟨_, fun _ => rfl, ?_⟩; go_big_quiet_on))
  refine sets_load_blk rfl (fun _ _ _ h => h) 24 _ rfl (w5.heap.size) rfl 24 (wv (0)) _ (fun S w' _ h3 => h3.1) Tryd.underlying24 rfl (by rw [wv_size]; kernel_rfl) ?_
  simp only [Act.put, List.setIfInBounds_toArray, List.set_cons_succ, List.set_cons_zero]
  repeat (refine sets_quiet (fun w' => ∃ u, w' = W u) hU.out rfl (fun _ _ _ h => h) rfl ?_; intro K hK; go_big_quiet_op; first | go_big_quiet_on | (refine ⟨_, fun _ => rfl, ?_⟩; go_big_quiet_on))
  refine sets_load_blk rfl (fun _ _ _ h => h) 24 _ rfl (w6.heap.size) rfl 24 (wv (15)) _ (fun S w' _ h3 => h3.2.1) Tryd.underlying24 rfl (by rw [wv_size]; kernel_rfl) ?_
  simp only [Act.put, List.setIfInBounds_toArray, List.set_cons_succ, List.set_cons_zero]
  refine sets_call (.agg (wv 15)) rfl 25 _ _ rfl Tryd.f25 Tryd.func25 (by kernel_rfl) (by kernel_rfl) [.int .u64 15] rfl ?_ ?_
  · intro S w' h1 h2 h3
    refine (C7.out _).mono ?_
    rintro e w'' ⟨rfl, hb⟩
    exact ⟨rfl, h3.1.below hb h3.1.lt, h3.2.1.below hb h3.2.1.lt, below_then h3.2.2 h3.2.2.size hb⟩
  · simp only [Act.put, List.setIfInBounds_toArray, List.set_cons_succ, List.set_cons_zero]
    repeat (refine sets_quiet (fun w' => ∃ u, w' = W u) hU.out rfl (fun _ _ _ h => h) rfl ?_; intro K hK; go_big_quiet_op; first | go_big_quiet_on | (refine ⟨_, fun _ => rfl, ?_⟩; go_big_quiet_on))
    refine sets_call (.agg (wv 255)) rfl 25 _ _ rfl Tryd.f25 Tryd.func25 (by kernel_rfl) (by kernel_rfl) [.int .u64 255] rfl ?_ ?_
    · intro S w' h1 h2 h3
      refine (C8.out _).mono ?_
      rintro e w'' ⟨rfl, hb⟩
      exact ⟨rfl, h3.1.below hb h3.1.lt, h3.2.1.below hb h3.2.1.lt, below_then h3.2.2 h3.2.2.size hb⟩
    · simp only [Act.put, List.setIfInBounds_toArray, List.set_cons_succ, List.set_cons_zero]
      refine sets_call (.string ⟨#[102, 102]⟩) rfl 44 _ _ rfl Tryd.f44 Tryd.func44 (by kernel_rfl) (by kernel_rfl) [.agg (wv 255)] rfl ?_ ?_
      · intro S w' h1 h2 h3
        refine (C9.out _).mono ?_
        rintro e w'' ⟨rfl, hb⟩
        exact ⟨rfl, h3.1.below hb h3.1.lt, h3.2.1.below hb h3.2.1.lt, below_then h3.2.2 h3.2.2.size hb⟩
      · simp only [Act.put, List.setIfInBounds_toArray, List.set_cons_succ, List.set_cons_zero]
        repeat (refine sets_quiet (fun w' => ∃ u, w' = W u) hU.out rfl (fun _ _ _ h => h) rfl ?_; intro K hK; go_big_quiet_op; first | go_big_quiet_on | (refine ⟨_, fun _ => rfl, ?_⟩; go_big_quiet_on))
        intro S w' hS hI
        clear c1 hW hU
        go_wp2
        go_ret
        exact ⟨rfl, hI.2.2⟩
end Go.Proofs.YtlpgflmjpdhpnaaDoor
