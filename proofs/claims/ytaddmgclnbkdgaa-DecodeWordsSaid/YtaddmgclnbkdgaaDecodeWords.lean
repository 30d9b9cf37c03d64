/- The law DecodeWords: its walk. -/
import Derived.Test.YtaddmgclnbkdgaaLb
import Derived.Test.YtaddmgclnbkdgaaVl
import Derived.Test.YtaddmgclnbkdgaaVm
namespace Go.Proofs.Ytaddmgclnbkdgaa
open Go Go.RowKit
set_option maxHeartbeats 4000000
set_option maxRecDepth 100000
set_option linter.unusedVariables false
set_option linter.unusedSimpArgs false
theorem words_none (w : World) (n : Nat) (hn : n < 4294967296) (hd : DEC n = none) : Calls Try.prog 14 #[.int .u32 n] w fun e w' => e = .returned (.bool true) ∧ Below w.heap.size w w' := by
  have C1 : Hid (∀ X, Calls Try.prog 22 #[.int .u32 n] X fun e w' => e = .returned (.tuple #[.agg (instV zeroI), .int .i64 250]) ∧ Below X.heap.size X w') := Lib.hid fun X => by
    have := decode_c X n hn; unfold DecP at this; rw [hd] at this; exact this
  have C2 : Hid (∀ X, Calls Try.prog 43 #[.int .u32 n] X fun e w' => e = .returned (.tuple #[.agg (instV zeroI), .int .i64 250]) ∧ Below X.heap.size X w') := Lib.hid fun X => by
    have := rdec_c X n hn; unfold DecP at this; rw [hd] at this; exact this
  have C3 : Hid (∀ X, Calls Try.prog 41 #[.int .u32 n] X fun e w' => e = .returned (.tuple #[.agg (useV zeroU), .int .i64 250]) ∧ Below X.heap.size X w') := Lib.hid fun X => by
    have := uses_c X n hn; unfold UsesP at this; rw [hd] at this; exact this
  have C4 : Hid (∀ X, Calls Try.prog 44 #[.int .u32 n] X fun e w' => e = .returned (.bool false) ∧ Below X.heap.size X w') := Lib.hid fun X => by
    have := legal_c X n hn; rw [hd] at this; exact this
  have C5 := Lib.hid lives25
  clear hd
  go_enter Try.func14, Try.ntmps14
  go_wp2_with (first
    | (go_at_call 22; (with_reducible refine (C1.out _).mono ?_); rintro e w1 ⟨rfl, b1⟩; clear C1)
    | (go_at_call 43; (with_reducible refine (C2.out _).mono ?_); rintro e w2 ⟨rfl, b2⟩; clear C2)
    | (go_at_call 41; (with_reducible refine (C3.out _).mono ?_); rintro e w3 ⟨rfl, b3⟩; clear C3; have q3 := ((Blk.nlater b2).acall b3).alloc (.cells (useV zeroU) 68); have q5 := (Blk.nlater b3).alloc (.cells (useV zeroU) 68))
    | (refine wpList_load_blk_on rfl _ _ rfl _ rfl _ _ _ q3 Try.underlying27 rfl (by kernel_rfl) ?_)
    | (refine wpList_load_blk_on rfl _ _ rfl _ rfl _ _ _ q5 Try.underlying27 rfl (by kernel_rfl) ?_)
    | (go_at_call 44; (with_reducible refine (C4.out _).mono ?_); rintro e w4 ⟨rfl, b4⟩; clear C4; have q7 := Blk.nlater b4)
    | (refine wpList_load_blk_on rfl _ _ rfl _ rfl _ _ _ q7 Try.underlying68 rfl (by kernel_rfl) ?_)
    | (go_at_call 40; (with_reducible refine (C5.out _).mono ?_); rintro e w5 ⟨rfl, b5⟩; clear C5))
  go_ret
  have c2 := below_acall b1 b1.size b2
  have c3 := below_acall c2 c2.size b3
  have c4 := below_acall c3 c3.size b4
  exact ⟨rfl, c4.trans (b5.mono c4.size)⟩
theorem words_some (w : World) (n : Nat) (hn : n < 4294967296) (x : I11) (hd : DEC n = some x) : Calls Try.prog 14 #[.int .u32 n] w fun e w' => e = .returned (.bool true) ∧ Below w.heap.size w w' := by
  have C1 : Hid (∀ X, Calls Try.prog 22 #[.int .u32 n] X fun e w' => e = .returned (.tuple #[.agg (instV x), .int .i64 0]) ∧ Below X.heap.size X w') := Lib.hid fun X => by
    have := decode_c X n hn; unfold DecP at this; rw [hd] at this; exact this
  have C2 : Hid (∀ X, Calls Try.prog 43 #[.int .u32 n] X fun e w' => e = .returned (.tuple #[.agg (instV x), .int .i64 0]) ∧ Below X.heap.size X w') := Lib.hid fun X => by
    have := rdec_c X n hn; unfold DecP at this; rw [hd] at this; exact this
  have C3 : Hid (∀ X, Calls Try.prog 41 #[.int .u32 n] X fun e w' => e = .returned (.tuple #[.agg (useV (USE x)), .int .i64 0]) ∧ Below X.heap.size X w') := Lib.hid fun X => by
    have := uses_c X n hn; unfold UsesP at this; rw [hd] at this; exact this
  have C4 : Hid (∀ X, Calls Try.prog 44 #[.int .u32 n] X fun e w' => e = .returned (.bool true) ∧ Below X.heap.size X w') := Lib.hid fun X => by
    have := legal_c X n hn; rw [hd] at this; exact this
  have M := dec_mays hn hd
  have C6 := Lib.hid (fun X => ruses_c X x M.1 M.2.1 M.2.2.1 M.2.2.2 (dec_op hn hd))
  have C5 := Lib.hid lives25
  obtain ⟨u, hu⟩ : ∃ u, USE x = u := ⟨_, rfl⟩
  rw [hu] at C3 C6
  have hxx : ∀ X, (binOp .neq 27 (.agg (instV x)) (.agg (instV x))).run Try.prog X = .ok (.bool false) X := fun X => by rw [neq_inst, decide_eq_true rfl]; rfl
  have huu : ∀ X, (binOp .eql 68 (.agg (useV u)) (.agg (useV u))).run Try.prog X = .ok (.bool true) X := fun X => by rw [eq_use, decide_eq_true rfl]
  clear hd M hu
  go_enter Try.func14, Try.ntmps14
  go_wp2_with (first
    | (go_at_call 22; (with_reducible refine (C1.out _).mono ?_); rintro e w1 ⟨rfl, b1⟩; clear C1)
    | (go_at_call 43; (with_reducible refine (C2.out _).mono ?_); rintro e w2 ⟨rfl, b2⟩; clear C2)
    | (go_at_call 41; (with_reducible refine (C3.out _).mono ?_); rintro e w3 ⟨rfl, b3⟩; clear C3; have q3 := ((Blk.nlater b2).acall b3).alloc (.cells (useV u) 68); have q5 := (Blk.nlater b3).alloc (.cells (useV u) 68))
    | (refine wpList_load_blk_on rfl _ _ rfl _ rfl _ _ _ q3 Try.underlying27 rfl (by kernel_rfl) ?_)
    | (refine wpList_load_blk_on rfl _ _ rfl _ rfl _ _ _ q5 Try.underlying27 rfl (by kernel_rfl) ?_)
    | (go_at_call 44; (with_reducible refine (C4.out _).mono ?_); rintro e w4 ⟨rfl, b4⟩; clear C4))
  have q7 := Blk.nlater b4
  have q5' := q5.call b4
  have c2 := below_acall b1 b1.size b2
  have c3 := below_acall c2 c2.size b3
  have c4 := below_acall c3 c3.size b4
  clear q3 q5 b1 b2 b3 b4 c2 c3
  refine wp_region_sets_lit (fun S X => Blk X w2.heap.size (instV x) 27 ∧ Blk X w3.heap.size (useV u) 68 ∧ Below w.heap.size w X) (by kernel_rfl) (by kernel_rfl) ⟨q5', q7, c4.drew⟩ ?_
  obtain ⟨U, V, hV, hU⟩ := worlds (fun (S : Nat → Bool) X => Blk X w2.heap.size (instV x) 27 ∧ Blk X w3.heap.size (useV u) 68 ∧ Below w.heap.size w X)
  replace hV := Lib.hid hV
  replace hU := Lib.hid hU
  clear q5' q7 c4
  refine sets_load_blk rfl (fun _ _ _ h => h) _ _ rfl w3.heap.size rfl _ (useV u) _ (fun S X _ h => h.2.1) Try.underlying68 rfl (by kernel_rfl) ?_
  simp only [Act.put, List.setIfInBounds_toArray, List.set_cons_succ, List.set_cons_zero]
  refine sets_load_blk rfl (fun _ _ _ h => h) _ _ rfl w2.heap.size rfl _ (instV x) _ (fun S X _ h => h.1) Try.underlying27 rfl (by kernel_rfl) ?_
  simp only [Act.put, List.setIfInBounds_toArray, List.set_cons_succ, List.set_cons_zero]
  refine sets_call (.agg (useV u)) rfl 45 [_] _ rfl Try.f45 Try.func45 (by kernel_rfl) (by kernel_rfl) [_] rfl (fun S X h1 h2 h3 => ?_) ?_
  · refine (C6.out X).mono ?_
    rintro e X2 ⟨rfl, hbl⟩
    exact ⟨rfl, h3.1.call hbl, h3.2.1.call hbl, h3.2.2.trans (hbl.mono h3.2.2.size)⟩
  simp only [Act.put, List.setIfInBounds_toArray, List.set_cons_succ, List.set_cons_zero]
  (repeat (first | (refine sets_quiet (fun w' => ∃ u, w' = V u) hU.out rfl (fun _ _ _ h => h) rfl ?_; intro K hK; go_big_quiet_op; first | go_big_quiet_on | (refine ⟨_, fun _ => rfl, ?_⟩; go_big_quiet_on)) | (refine sets_skip rfl (fun _ _ _ h => h) ?_; simp only [Act.put, List.setIfInBounds_toArray, List.set_cons_succ, List.set_cons_zero])))
  refine sets_call (.bool true) rfl 40 [] _ rfl Try.f40 Try.func40 (by kernel_rfl) (by kernel_rfl) [] rfl (fun S X h1 h2 h3 => ?_) ?_
  · refine (C5.out X).mono ?_
    rintro e X2 ⟨rfl, hbl⟩
    exact ⟨rfl, h3.1.call hbl, h3.2.1.call hbl, h3.2.2.trans (hbl.mono h3.2.2.size)⟩
  simp only [Act.put, List.setIfInBounds_toArray, List.set_cons_succ, List.set_cons_zero]
  (repeat (first | (refine sets_quiet (fun w' => ∃ u, w' = V u) hU.out rfl (fun _ _ _ h => h) rfl ?_; intro K hK; go_big_quiet_op; first | go_big_quiet_on | (refine ⟨_, fun _ => rfl, ?_⟩; go_big_quiet_on)) | (refine sets_skip rfl (fun _ _ _ h => h) ?_; simp only [Act.put, List.setIfInBounds_toArray, List.set_cons_succ, List.set_cons_zero])))
  rintro S X hS ⟨i1, i2, i3⟩
  go_wp2
  go_ret
  exact ⟨rfl, i3⟩
theorem walk_DecodeWords (n : Nat) (hn : n < 4294967296) (w : World) : Calls Try.prog 14 #[.int .u32 n] w fun e w' => e = .returned (.bool true) ∧ Below w.heap.size w w' := by
  cases hd : DEC n with
  | none => exact words_none w n hn hd
  | some x => exact words_some w n hn x hd
end Go.Proofs.Ytaddmgclnbkdgaa
