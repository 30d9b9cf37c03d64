/- The walk of MemNew: whatever the length: the answer is true. No condition. -/
import Derived.Test.YtdgdmhmagdjeoaaUh
import Derived.Test.YtdgdmhmagdjeoaaKg
namespace Go.Proofs.Ytdgdmhmagdjeoaa
open Go.RowKit
set_option maxHeartbeats 4000000
set_option maxRecDepth 100000
set_option linter.unusedVariables false
set_option linter.unusedSimpArgs false
theorem same_zero (w : World) (n c d : Nat) (ao bo : Option Addr) (hn : n ≤ 9223372036854775807) (h1 : Rd w ao (List.replicate n 0)) (h2 : Rd w bo (List.replicate n 0)) :
    Calls Try.prog 12 #[.slice ao n c, .slice bo n d] w fun e w' => e = .returned (.bool true) ∧ Below w.heap.size w w' := by
  have := same_any w ao bo (List.replicate n 0) (List.replicate n 0) c d (by rw [List.length_replicate]; exact hn) h1 h2
  rw [List.length_replicate, decide_eq_true rfl] at this
  refine this.mono ?_
  rintro e w' ⟨rfl, k, rfl⟩
  exact ⟨rfl, below_drewN (Below.refl _ _)⟩
theorem walk_MemNew (n : Int) (w : World) : Calls Try.prog 3 #[.int .i64 n] w fun e w' => e = .returned (.bool true) ∧ Below w.heap.size w w' := by
  rcases (by omega : n < 0 ∨ (0 ≤ n ∧ n ≤ 100000) ∨ (100000 < n ∧ n ≤ 16777216) ∨ 16777216 < n) with h | h | h | h
  · go_enter Try.func3, Try.ntmps3
    go_wp2_with (first
      | (go_at_call 10; (with_reducible refine (new_neg _ n h).mono ?_); rintro e w1 ⟨rfl, rfl⟩)
      | (go_at_call 9; (with_reducible refine (lives_c _).mono ?_); rintro e w7 ⟨rfl, h7⟩))
    go_ret
    exact ⟨rfl, h7⟩
  · obtain ⟨n, rfl⟩ : ∃ k : Nat, n = (k : Int) := ⟨n.toNat, by omega⟩
    obtain ⟨h0, hn⟩ := h
    have h1 : ¬ (100000 : Int) < (n : Int) := by omega
    have h2 : ¬ (16777216 : Int) < (n : Int) := by omega
    obtain ⟨i5, hi, hz0, hz1, hz2⟩ := info_parts infoB
    go_enter Try.func3, Try.ntmps3
    go_wp2_with (first
      | (go_at_call 10; (with_reducible refine (new_c _ n (by omega)).mono ?_); rintro e w1 ⟨m, g, c, rfl, hM, hb⟩; rw [List.length_replicate] at hM))
    obtain ⟨U, W, hU⟩ : ∃ (U : Type) (W : U → World), ∀ w', ∃ u, w' = W u := ⟨World, id, fun w => ⟨w, rfl⟩⟩
    refine wp_region_ghosts [_, _, _, _, _, _, _, _, _, _, _, _, _] [_, _, _, _, _, _] (fun k => k == 10 || k == 12) (fun x S w' => Below w1.heap.size w1 w' ∧
      (S 10 = true → ∃ a3 c3, x 10 = .slice a3 n c3 ∧ Rd w' a3 (List.replicate n 0)) ∧ (S 12 = true → ∃ b, x 12 = .slice (some ⟨b, 0, none⟩) n n ∧ Rd w' (some ⟨b, 0, none⟩) (List.replicate n 0)))
      (by kernel_rfl) (by kernel_rfl) (by kernel_rfl) (by kernel_rfl) (fun x => ⟨(Below.refl _ w1).drew, (fun h => by cases h), (fun h => by cases h)⟩) ?_
    have HH := Lib.hid hM.hd
    have HM := Lib.hid hM
    have HB := Lib.hid hb
    clear hM hb
    (repeat (first | (refine gs_quiet (fun w' => ∃ u, w' = W u) (fun _ _ w' _ => hU w') rfl rfl (fun _ _ _ _ h => h) rfl ?_; intro K hK; go_big_quiet_op; first | go_big_quiet_on | (refine ⟨_, fun _ => rfl, ?_⟩; go_big_quiet_on)) | (refine gs_nil rfl rfl (fun _ _ _ _ h => h) _ rfl _ rfl ?_; simp only [Act.put, List.setIfInBounds_toArray, List.set_cons_succ, List.set_cons_zero])))
    refine gs_call (.int .i64 (n : Nat)) rfl rfl 11 [_] _ rfl Try.f11 Try.func11 (by kernel_rfl) (by kernel_rfl) [.pointer (some ⟨m, 0, none⟩)] rfl ?_ ?_
    · rintro x S w' h1 hcl ha h3
      refine (len_c w' m _ n c (HH.out.below h3.1)).mono ?_
      rintro e w'' ⟨rfl, rfl⟩
      exact ⟨rfl, h3⟩
    simp only [Act.put, List.setIfInBounds_toArray, List.set_cons_succ, List.set_cons_zero]
    (repeat (first | (refine gs_quiet (fun w' => ∃ u, w' = W u) (fun _ _ w' _ => hU w') rfl rfl (fun _ _ _ _ h => h) rfl ?_; intro K hK; go_big_quiet_op; first | go_big_quiet_on | (refine ⟨_, fun _ => rfl, ?_⟩; go_big_quiet_on)) | (refine gs_nil rfl rfl (fun _ _ _ _ h => h) _ rfl _ rfl ?_; simp only [Act.put, List.setIfInBounds_toArray, List.set_cons_succ, List.set_cons_zero])))
    refine gs_call_ghost rfl rfl 13 [_] _ rfl Try.f13 Try.func13 (by kernel_rfl) (by kernel_rfl) [.pointer (some ⟨m, 0, none⟩)] rfl ?_ ?_
    · rintro x S w' h1 hcl ha ⟨hB, h10, h12⟩
      refine (all_c w' w.heap.size m _ n c _ (HM.out.later hB)).mono ?_
      rintro e w'' ⟨ao, c3, rfl, hr, hb⟩
      rw [List.length_replicate] at hr ⊢
      exact ⟨_, rfl, hB.trans (hb.mono hB.size), fun _ => ⟨ao, c3, rfl, hr.rd⟩, (fun h => by obtain ⟨b, h4, h5⟩ := h12 h; exact ⟨b, h4, h5.later hb⟩)⟩
    simp only [Act.put, List.setIfInBounds_toArray, List.set_cons_succ, List.set_cons_zero]
    (repeat (first | (refine gs_quiet (fun w' => ∃ u, w' = W u) (fun _ _ w' _ => hU w') rfl rfl (fun _ _ _ _ h => h) rfl ?_; intro K hK; go_big_quiet_op; first | go_big_quiet_on | (refine ⟨_, fun _ => rfl, ?_⟩; go_big_quiet_on)) | (refine gs_nil rfl rfl (fun _ _ _ _ h => h) _ rfl _ rfl ?_; simp only [Act.put, List.setIfInBounds_toArray, List.set_cons_succ, List.set_cons_zero])))
    refine gs_val rfl rfl ?_ ?_
    · rintro x S w' h1 hcl ha ⟨hB, h10, h12⟩
      obtain ⟨w'', hr1, hr2, hr3⟩ := run_make_full (P := Try.prog) w' w'.heap.size 29 5 i5 (.int .u8 0) 1 Try.underlying29 hi hz0 hz1 .i64 .i64 n (by rw [hz2]; omega) (by unfold maxLen; omega) (Nat.le_refl _)
      refine ⟨.slice (some ⟨w'.heap.size, 0, none⟩) n n, w'', by simp [execOp, Act.eval, hr1, Result.andThen], hB.trans ((grown_below hr3).mono hB.size), (fun h => by obtain ⟨a3, c3, h4, h5⟩ := h10 h; exact ⟨a3, c3, h4, h5.later (grown_below hr3)⟩), fun _ => ⟨_, rfl, ?_⟩⟩
      have hrow : Row w'' w'.heap.size (.slice (some ⟨w'.heap.size, 0, none⟩) n n) (List.replicate n 0) := by
        show World.ownsRow _ _ _ _ _ _ _
        rw [← u8s_zero, List.length_replicate, ← toList_madeCells_one]
        rw [Nat.mul_one] at hr2; exact hr2
      exact hrow.rd
    rintro x S w' hS ⟨hB, h10, h12⟩
    obtain ⟨a3, c3, e10, hr3⟩ := h10 (hS 10 (by decide))
    obtain ⟨b, e12, hr4⟩ := h12 (hS 12 (by decide))
    change wpList _ _ _ _ ((Act.put _ (some 51) (x 10)).put (some 53) (x 12)) _
    rw [e10, e12]
    clear h10 h12 hS e10 e12
    have HB2 := Lib.hid (HB.out.trans (hB.mono HB.out.size))
    clear hB
    simp only [Act.put, List.setIfInBounds_toArray, List.set_cons_succ, List.set_cons_zero]
    go_wp2_with (first
      | (go_at_call 12; (with_reducible refine (same_zero _ n _ _ _ _ (by omega) hr3 hr4).mono ?_); rintro e w7 ⟨rfl, h7⟩)
      | (go_at_call 9; (with_reducible refine (lives_c _).mono ?_); rintro e w8 ⟨rfl, h8⟩))
    go_ret
    exact ⟨rfl, (HB2.out.trans (h7.mono HB2.out.size)).trans (h8.mono (Nat.le_trans HB2.out.size h7.size))⟩
  · have h0 : ¬ n < 0 := by omega
    obtain ⟨ha, hb⟩ := h
    go_enter Try.func3, Try.ntmps3
    go_wp2_with (first
      | (go_at_call 9; (with_reducible refine (lives_c _).mono ?_); rintro e w7 ⟨rfl, h7⟩))
    go_ret
    exact ⟨rfl, h7⟩
  · have h0 : ¬ n < 0 := by omega
    have h1 : ¬ n ≤ 16777216 := by omega
    have h2 : 100000 < n := by omega
    go_enter Try.func3, Try.ntmps3
    go_wp2_with (first
      | (go_at_call 10; (with_reducible refine (new_big _ n h).mono ?_); rintro e w1 ⟨rfl, rfl⟩)
      | (go_at_call 9; (with_reducible refine (lives_c _).mono ?_); rintro e w7 ⟨rfl, h7⟩))
    go_ret
    exact ⟨rfl, h7⟩
end Go.Proofs.Ytdgdmhmagdjeoaa
