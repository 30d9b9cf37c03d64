/- Contracts of package mem at a memory that is not there. -/
import Derived.Test.YtdgdmhmagdjeoaaUi
import Derived.Test.YtdgdmhmagdjeoaaKka
namespace Go.Proofs.Ytdgdmhmagdjeoaa
open Go.RowKit
set_option maxHeartbeats 4000000
set_option maxRecDepth 100000
set_option linter.unusedVariables false
set_option linter.unusedSimpArgs false
theorem load_no (w : World) (p : Value) (a : Nat) (k : Int) (h : NoMem w p) :
    Calls Try.prog 15 #[p, .int .u64 a, .int .i64 k] w fun e w' => e = .returned (.tuple #[.agg #[.int .u64 0, .int .u64 0], .int .i64 1]) ∧ Below w.heap.size w w' := by
  have C1 := Lib.hid (check_no _ p a k (h.later (below_alloc w (.cells #[.int .u64 0, .int .u64 0] 35))))
  clear h
  go_enter Try.func15, Try.ntmps15
  go_wp2_with (first
    | (go_at_call 32; (with_reducible refine C1.out.mono ?_); rintro e w' ⟨rfl, rfl⟩))
  exact bodyPost_ret (results_cell_tmp rfl _ _ w.heap.size 35 _ _ rfl (Blk.new _ _ _) Try.underlying35 rfl (by kernel_rfl)) rfl ⟨rfl, below_alloc w _⟩
theorem store_no (w : World) (p : Value) (a hi lo : Nat) (k : Int) (h : NoMem w p) :
    Calls Try.prog 14 #[p, .int .u64 a, .int .i64 k, .agg #[.int .u64 hi, .int .u64 lo]] w fun e w' => e = .returned (.int .i64 1) ∧ Below w.heap.size w w' := by
  have C1 := Lib.hid (check_no _ p a k (h.later (below_alloc w (.cells #[.int .u64 (hi : Nat), .int .u64 (lo : Nat)] 35))))
  clear h
  go_enter Try.func14, Try.ntmps14
  go_wp2_with (first
    | (go_at_call 32; (with_reducible refine C1.out.mono ?_); rintro e w' ⟨rfl, rfl⟩))
  go_ret
  exact ⟨rfl, below_alloc w _⟩
theorem sum_no (w : World) (p : Value) (h : NoMem w p) : Calls Try.prog 24 #[p] w fun e w' => e = .returned (.int .u64 0) ∧ w' = w := by
  have C1 := Lib.hid (none_no w p h)
  clear h
  go_enter Try.func24, Try.ntmps24
  go_wp2_with (first
    | (go_at_call 31; (with_reducible refine C1.out.mono ?_); rintro e w' ⟨rfl, rfl⟩))
  go_ret
  exact ⟨rfl, rfl⟩
theorem change_no (w : World) (p v : Value) (h : NoMem w p) : Calls Try.prog 23 #[p, v] w fun e w' => e = .returned (.int .i64 1) ∧ w' = w := by
  have C1 := Lib.hid (none_no w p h)
  clear h
  go_enter Try.func23, Try.ntmps23
  go_wp2_with (first
    | (go_at_call 31; (with_reducible refine C1.out.mono ?_); rintro e w' ⟨rfl, rfl⟩))
  go_ret
  exact ⟨rfl, rfl⟩
theorem changed_no1 (w : World) (p q : Value) (h : NoMem w p) : Calls Try.prog 19 #[p, q] w fun e w' => e = .returned (.tuple #[.slice none 0 0, .int .i64 1]) ∧ w' = w := by
  have C1 := Lib.hid (none_no w p h)
  clear h
  go_enter Try.func19, Try.ntmps19
  go_wp2
  refine wp_scope_straight ?_
  go_wp2_with (first
    | (go_at_call 31; (with_reducible refine C1.out.mono ?_); rintro e w' ⟨rfl, rfl⟩))
  simp only [Exit.noGoto]
  go_ret2
  exact ⟨rfl, rfl⟩
theorem changed_no2 (w : World) (m : Nat) (ao : Option Addr) (n cap : Nat) (q : Value) (hm : Head w m ao n cap) (h : NoMem w q) : Calls Try.prog 19 #[.pointer (some ⟨m, 0, none⟩), q] w fun e w' => e = .returned (.tuple #[.slice none 0 0, .int .i64 1]) ∧ w' = w := by
  have C1 := Lib.hid (none_c w m ao n cap hm)
  have C2 := Lib.hid (none_no w q h)
  clear h hm
  go_enter Try.func19, Try.ntmps19
  go_wp2
  refine wp_scope_straight ?_
  go_wp2_with (first
    | (go_at_call 31; (with_reducible refine C1.out.mono ?_); rintro e w' ⟨rfl, rfl⟩; clear C1)
    | (go_at_call 31; (with_reducible refine C2.out.mono ?_); rintro e w' ⟨rfl, rfl⟩))
  simp only [Exit.noGoto]
  go_ret2
  exact ⟨rfl, rfl⟩
theorem same_no (w : World) (p q : Value) (h : NoMem w p) : Calls Try.prog 22 #[p, q] w fun e w' => e = .returned (.bool false) ∧ ∃ k, w' = w.drewN k := by
  have H0 := Lib.hid h
  clear h
  go_enter Try.func22, Try.ntmps22
  go_wp2
  refine wp_region_tail [_, _, _, _, _, _, _, _, _, _, _, _, _, _, _, _, _, _, _] [_] (fun _ w' => ∃ q, w' = w.drewN q) (by kernel_rfl) (by kernel_rfl) (by kernel_rfl) ⟨1, rfl⟩ ?_
  (repeat (first | (refine sets_quiet (fun w' => ∃ q, w' = w.drewN q) (fun _ _ h => h) rfl (fun _ _ _ h => h) rfl ?_; intro K hK; go_big_quiet_op; first | go_big_quiet_on | (refine ⟨_, fun _ => rfl, ?_⟩; go_big_quiet_on)) | (refine sets_nil rfl (fun _ _ _ h => h) _ rfl _ rfl ?_; simp only [Act.put, List.setIfInBounds_toArray, List.set_cons_succ, List.set_cons_zero]) | (refine sets_skip rfl (fun _ _ _ h => h) ?_; simp only [Act.put, List.setIfInBounds_toArray, List.set_cons_succ, List.set_cons_zero])))
  refine sets_call (.bool true) rfl 31 [_] _ rfl Try.f31 Try.func31 (by kernel_rfl) (by kernel_rfl) [p] rfl ?_ ?_
  · rintro S w' h1 h2 ⟨k, rfl⟩
    exact (none_no _ p (H0.out.later (below_drewN (Below.refl _ w)))).mono fun e w'' ⟨he, hw⟩ => ⟨he, k, hw⟩
  simp only [Act.put, List.setIfInBounds_toArray, List.set_cons_succ, List.set_cons_zero]
  (repeat (first | (refine sets_quiet (fun w' => ∃ q, w' = w.drewN q) (fun _ _ h => h) rfl (fun _ _ _ h => h) rfl ?_; intro K hK; go_big_quiet_op; first | go_big_quiet_on | (refine ⟨_, fun _ => rfl, ?_⟩; go_big_quiet_on)) | (refine sets_nil rfl (fun _ _ _ h => h) _ rfl _ rfl ?_; simp only [Act.put, List.setIfInBounds_toArray, List.set_cons_succ, List.set_cons_zero]) | (refine sets_skip rfl (fun _ _ _ h => h) ?_; simp only [Act.put, List.setIfInBounds_toArray, List.set_cons_succ, List.set_cons_zero])))
  rintro S _ _ ⟨k, rfl⟩
  go_wp2
  go_ret
  exact ⟨rfl, k, rfl⟩
end Go.Proofs.Ytdgdmhmagdjeoaa
