/- The walk of the law WideBack. -/
import Derived.Test.YtlpgflmjpdhpnaaDoorRows
import Derived.Test.YtlpgflmjpdhpnaaDoorG
import Derived.Test.YtlpgflmjpdhpnaaDoorXe
import Derived.Test.YtlpgflmjpdhpnaaDoorXl
import Derived.Test.YtlpgflmjpdhpnaaDoorXj
import Derived.Test.YtlpgflmjpdhpnaaDoorTr
import Derived.Test.YtlpgflmjpdhpnaaDoorXf
import Derived.Test.YtlpgflmjpdhpnaaDoorJq
namespace Go.Proofs.YtlpgflmjpdhpnaaDoor
open Go.RowKit
set_option maxHeartbeats 4000000
set_option maxRecDepth 100000
set_option linter.unusedVariables false
set_option linter.unusedSimpArgs false
set_option exponentiation.threshold 1000
set_option exponentiation.threshold 400
attribute [local irreducible] wv
theorem walk_WideBack0 (a : Nat) (n : Int) (ha : a < W384) (ho : W384 ≤ a * 2 ^ clamp n 384) (w : World) (hT : Tab w) : Calls Tryd.prog 11 #[.agg (wv (a)), .int .i64 n] w fun e w' => e = .returned (.bool true) ∧ Below w.heap.size w w' := by
  have HTab := Lib.hid hT
  clear hT
  obtain ⟨c, hc⟩ : ∃ c, clamp n 384 = c := ⟨_, rfl⟩
  rw [hc] at ho
  obtain ⟨tx, ht⟩ : ∃ z, (⟨(textL a (txtN a)).toArray⟩ : ByteArray) = z := ⟨_, rfl⟩
  have hok := text_ok ha
  have htl : tx.data.toList = textL a (txtN a) := by rw [← ht]
  have hsz : tx.size ≤ maxLen := by
    have h1 := (txtN_le ha).2
    have h2 : tx.size = (textL a (txtN a)).length := by rw [← htl]; rfl
    rw [h2, show (textL a (txtN a)).length = txtN a by simp [textL]]
    exact Nat.le_trans h1 (by decide)
  have hv : readV tx.data.toList = a := by rw [htl]; unfold readV; rw [if_pos hok.1, hok.2]
  have he : readE tx.data.toList = 0 := by rw [htl]; unfold readE; rw [if_pos hok.1]
  have lx : leftW a c < W384 := leftW_lt _ _
  obtain ⟨x, hx⟩ : ∃ x, leftW a c = x := ⟨_, rfl⟩
  obtain ⟨y, hy⟩ : ∃ y, x / 2 ^ c = y := ⟨_, rfl⟩
  obtain ⟨u, hu⟩ : ∃ o, decide (x % 2 ^ c ≠ 0) = o := ⟨_, rfl⟩
  rw [hx] at lx
  have hm : Tryd.prog.eqGuardType Tryd.prog.depth 24 = false := by kernel_rfl
  have q0 : ∀ w, (binOp .neq 24 (.agg (wv (a))) (.agg (wv (a)))).run Tryd.prog w = .ok (.bool false) w := fun w => by
    have := run_neq_wv Tryd.underlying24 Tryd.underlying22 (by kernel_rfl) (a) (a) (ha) (ha) w
    rwa [decide_eq_true rfl] at this
  have C1 : Hid (∀ W, Calls Tryd.prog 44 #[.agg (wv (a))] W fun e w' => e = .returned (.string tx) ∧ Below W.heap.size W w') := Lib.hid fun W => by have := wtext_c a W ha; rwa [ht] at this
  have C2 : Hid (∀ W, Calls Tryd.prog 43 #[.string tx] W fun e w' => e = .returned (.tuple #[.agg (wv a), .int .i64 0]) ∧ Below W.heap.size W w') := Lib.hid fun W => by have := wread_c tx W hsz; rwa [hv, he] at this
  have C3 : Hid (∀ W, Calls Tryd.prog 23 #[.agg (wv (a)), .int .i64 n] W fun e w' => e = .returned (.tuple #[.agg (wv x), .bool true]) ∧ Below W.heap.size W w') := Lib.hid fun W => by have := wleft_c a n W ha; rwa [hc, hx, decide_eq_true ho] at this
  have C4 : Hid (∀ W, Tab W → Calls Tryd.prog 22 #[.agg (wv (x)), .int .i64 n] W fun e w' => e = .returned (.tuple #[.agg (wv y), .bool u]) ∧ Below W.heap.size W w') := Lib.hid fun W hT => by have := wright_c x n W lx hT; rwa [hc, hy, hu] at this
  have CA : Hid (∀ W, Calls Tryd.prog 29 #[] W fun e w' => e = .returned (.bool true) ∧ Below W.heap.size W w') := Lib.hid fun W => alive2_c W
  clear hc ht hok htl hsz hv he hx hy hu lx ha ho
  go_enter Tryd.func11, Tryd.ntmps11
  have HS0 := Lib.hid ((Ds.nil w).box (wv (a)) 24 (w.heap.size) rfl)
  have g1_0 : Blk (w.alloc (.cells (wv (a)) 24)) (w.heap.size) (wv (a)) 24 := HS0.out.all 0 _ rfl
  have tb1 : Tab (w.alloc (.cells (wv (a)) 24)) := HTab.out.below0 HS0.out.le
  go_wp2_with (first
    | (refine wpList_load_wv rfl 24 _ rfl _ rfl 24 _ _ (by with_reducible assumption) Tryd.underlying24 rfl (by kernel_rfl) ?_)
    | (refine wpList_load_wv_g rfl 24 _ rfl _ rfl 24 _ _ (by with_reducible assumption) Tryd.underlying24 rfl (by kernel_rfl) ?_)
    | (go_at_call 44; (with_reducible refine (C1.out _).mono ?_); rintro e wc42 ⟨rfl, bc42⟩; clear C1; have H143 : Hid (Ds [(w.heap.size, wv (a), 24)] w wc42) := Lib.hid (HS0.out.call bc42); clear g1_0 tb1 bc42 HS0; have g2_0 : Blk wc42 (w.heap.size) (wv (a)) 24 := H143.out.all 0 _ rfl; have tb2 : Tab wc42 := HTab.out.below0 H143.out.le)
    | (go_at_call 43; (with_reducible refine (C2.out _).mono ?_); rintro e wc44 ⟨rfl, bc44⟩; clear C2; have H145 : Hid (Ds [(w.heap.size, wv (a), 24)] w wc44) := Lib.hid (H143.out.call bc44); clear g2_0 tb2 bc44 H143; have g3_0 : Blk wc44 (w.heap.size) (wv (a)) 24 := H145.out.all 0 _ rfl; have tb3 : Tab wc44 := HTab.out.below0 H145.out.le)
    | (refine wpList_store_wv rfl 24 _ _ rfl (wc44.heap.size) (a) rfl rfl 24 0 (Blk.zeroAt _ _ rfl) (by kernel_rfl) ?_; have H146 : Hid (Ds [(wc44.heap.size, wv (a), 24), (w.heap.size, wv (a), 24)] w ((wc44.alloc (.cells #[.int .u64 0, .int .u64 0, .int .u64 0, .int .u64 0, .int .u64 0, .int .u64 0] 24)).setRow wc44.heap.size (wv (a)))) := Lib.hid ((H145.out.box #[.int .u64 0, .int .u64 0, .int .u64 0, .int .u64 0, .int .u64 0, .int .u64 0] 24 _ rfl).setRow 0 (wv (a)) _ _ _ rfl); clear g3_0 tb3 H145; have g4_0 : Blk ((wc44.alloc (.cells #[.int .u64 0, .int .u64 0, .int .u64 0, .int .u64 0, .int .u64 0, .int .u64 0] 24)).setRow wc44.heap.size (wv (a))) (wc44.heap.size) (wv (a)) 24 := H146.out.all 0 _ rfl; have g4_1 : Blk ((wc44.alloc (.cells #[.int .u64 0, .int .u64 0, .int .u64 0, .int .u64 0, .int .u64 0, .int .u64 0] 24)).setRow wc44.heap.size (wv (a))) (w.heap.size) (wv (a)) 24 := H146.out.all 1 _ rfl; have tb4 : Tab ((wc44.alloc (.cells #[.int .u64 0, .int .u64 0, .int .u64 0, .int .u64 0, .int .u64 0, .int .u64 0] 24)).setRow wc44.heap.size (wv (a))) := HTab.out.below0 H146.out.le)
    | (go_at_call 23; (with_reducible refine (C3.out _).mono ?_); rintro e wc47 ⟨rfl, bc47⟩; clear C3; have H148 : Hid (Ds [(wc44.heap.size, wv (a), 24), (w.heap.size, wv (a), 24)] w wc47) := Lib.hid (H146.out.call bc47); clear g4_0 g4_1 tb4 bc47 H146; have g5_0 : Blk wc47 (wc44.heap.size) (wv (a)) 24 := H148.out.all 0 _ rfl; have g5_1 : Blk wc47 (w.heap.size) (wv (a)) 24 := H148.out.all 1 _ rfl; have tb5 : Tab wc47 := HTab.out.below0 H148.out.le)
    | (refine wpList_store_wv rfl 24 _ _ rfl (wc47.heap.size) (x) rfl rfl 24 0 (Blk.zeroAt _ _ rfl) (by kernel_rfl) ?_; have H149 : Hid (Ds [(wc47.heap.size, wv (x), 24), (wc44.heap.size, wv (a), 24), (w.heap.size, wv (a), 24)] w ((wc47.alloc (.cells #[.int .u64 0, .int .u64 0, .int .u64 0, .int .u64 0, .int .u64 0, .int .u64 0] 24)).setRow wc47.heap.size (wv (x)))) := Lib.hid ((H148.out.box #[.int .u64 0, .int .u64 0, .int .u64 0, .int .u64 0, .int .u64 0, .int .u64 0] 24 _ rfl).setRow 0 (wv (x)) _ _ _ rfl); clear g5_0 g5_1 tb5 H148; have g6_0 : Blk ((wc47.alloc (.cells #[.int .u64 0, .int .u64 0, .int .u64 0, .int .u64 0, .int .u64 0, .int .u64 0] 24)).setRow wc47.heap.size (wv (x))) (wc47.heap.size) (wv (x)) 24 := H149.out.all 0 _ rfl; have g6_1 : Blk ((wc47.alloc (.cells #[.int .u64 0, .int .u64 0, .int .u64 0, .int .u64 0, .int .u64 0, .int .u64 0] 24)).setRow wc47.heap.size (wv (x))) (wc44.heap.size) (wv (a)) 24 := H149.out.all 1 _ rfl; have g6_2 : Blk ((wc47.alloc (.cells #[.int .u64 0, .int .u64 0, .int .u64 0, .int .u64 0, .int .u64 0, .int .u64 0] 24)).setRow wc47.heap.size (wv (x))) (w.heap.size) (wv (a)) 24 := H149.out.all 2 _ rfl; have tb6 : Tab ((wc47.alloc (.cells #[.int .u64 0, .int .u64 0, .int .u64 0, .int .u64 0, .int .u64 0, .int .u64 0] 24)).setRow wc47.heap.size (wv (x))) := HTab.out.below0 H149.out.le)
    | (go_at_call 22; (with_reducible refine (C4.out _ (by with_reducible assumption)).mono ?_); rintro e wc50 ⟨rfl, bc50⟩; clear C4; have H151 : Hid (Ds [(wc47.heap.size, wv (x), 24), (wc44.heap.size, wv (a), 24), (w.heap.size, wv (a), 24)] w wc50) := Lib.hid (H149.out.call bc50); clear g6_0 g6_1 g6_2 tb6 bc50 H149; have g7_0 : Blk wc50 (wc47.heap.size) (wv (x)) 24 := H151.out.all 0 _ rfl; have g7_1 : Blk wc50 (wc44.heap.size) (wv (a)) 24 := H151.out.all 1 _ rfl; have g7_2 : Blk wc50 (w.heap.size) (wv (a)) 24 := H151.out.all 2 _ rfl; have tb7 : Tab wc50 := HTab.out.below0 H151.out.le)
    | (refine wpList_store_wv rfl 24 _ _ rfl (wc50.heap.size) (y) rfl rfl 24 0 (Blk.zeroAt _ _ rfl) (by kernel_rfl) ?_; have H152 : Hid (Ds [(wc50.heap.size, wv (y), 24), (wc47.heap.size, wv (x), 24), (wc44.heap.size, wv (a), 24), (w.heap.size, wv (a), 24)] w ((wc50.alloc (.cells #[.int .u64 0, .int .u64 0, .int .u64 0, .int .u64 0, .int .u64 0, .int .u64 0] 24)).setRow wc50.heap.size (wv (y)))) := Lib.hid ((H151.out.box #[.int .u64 0, .int .u64 0, .int .u64 0, .int .u64 0, .int .u64 0, .int .u64 0] 24 _ rfl).setRow 0 (wv (y)) _ _ _ rfl); clear g7_0 g7_1 g7_2 tb7 H151; have g8_0 : Blk ((wc50.alloc (.cells #[.int .u64 0, .int .u64 0, .int .u64 0, .int .u64 0, .int .u64 0, .int .u64 0] 24)).setRow wc50.heap.size (wv (y))) (wc50.heap.size) (wv (y)) 24 := H152.out.all 0 _ rfl; have g8_1 : Blk ((wc50.alloc (.cells #[.int .u64 0, .int .u64 0, .int .u64 0, .int .u64 0, .int .u64 0, .int .u64 0] 24)).setRow wc50.heap.size (wv (y))) (wc47.heap.size) (wv (x)) 24 := H152.out.all 1 _ rfl; have g8_2 : Blk ((wc50.alloc (.cells #[.int .u64 0, .int .u64 0, .int .u64 0, .int .u64 0, .int .u64 0, .int .u64 0] 24)).setRow wc50.heap.size (wv (y))) (wc44.heap.size) (wv (a)) 24 := H152.out.all 2 _ rfl; have g8_3 : Blk ((wc50.alloc (.cells #[.int .u64 0, .int .u64 0, .int .u64 0, .int .u64 0, .int .u64 0, .int .u64 0] 24)).setRow wc50.heap.size (wv (y))) (w.heap.size) (wv (a)) 24 := H152.out.all 3 _ rfl; have tb8 : Tab ((wc50.alloc (.cells #[.int .u64 0, .int .u64 0, .int .u64 0, .int .u64 0, .int .u64 0, .int .u64 0] 24)).setRow wc50.heap.size (wv (y))) := HTab.out.below0 H152.out.le)
    | (go_at_call 29; (with_reducible refine (CA.out _).mono ?_); rintro e wc53 ⟨rfl, bc53⟩; clear CA; have H154 : Hid (Ds [(wc50.heap.size, wv (y), 24), (wc47.heap.size, wv (x), 24), (wc44.heap.size, wv (a), 24), (w.heap.size, wv (a), 24)] w wc53) := Lib.hid (H152.out.call bc53); clear g8_0 g8_1 g8_2 g8_3 tb8 bc53 H152; have g9_0 : Blk wc53 (wc50.heap.size) (wv (y)) 24 := H154.out.all 0 _ rfl; have g9_1 : Blk wc53 (wc47.heap.size) (wv (x)) 24 := H154.out.all 1 _ rfl; have g9_2 : Blk wc53 (wc44.heap.size) (wv (a)) 24 := H154.out.all 2 _ rfl; have g9_3 : Blk wc53 (w.heap.size) (wv (a)) 24 := H154.out.all 3 _ rfl; have tb9 : Tab wc53 := HTab.out.below0 H154.out.le))
  go_ret
  exact ⟨rfl, H154.out.le⟩
theorem walk_WideBack1 (a : Nat) (n : Int) (ha : a < W384) (ho : ¬ W384 ≤ a * 2 ^ clamp n 384) (w : World) (hT : Tab w) : Calls Tryd.prog 11 #[.agg (wv (a)), .int .i64 n] w fun e w' => e = .returned (.bool true) ∧ Below w.heap.size w w' := by
  have HTab := Lib.hid hT
  clear hT
  obtain ⟨c, hc⟩ : ∃ c, clamp n 384 = c := ⟨_, rfl⟩
  rw [hc] at ho
  obtain ⟨tx, ht⟩ : ∃ z, (⟨(textL a (txtN a)).toArray⟩ : ByteArray) = z := ⟨_, rfl⟩
  have hok := text_ok ha
  have htl : tx.data.toList = textL a (txtN a) := by rw [← ht]
  have hsz : tx.size ≤ maxLen := by
    have h1 := (txtN_le ha).2
    have h2 : tx.size = (textL a (txtN a)).length := by rw [← htl]; rfl
    rw [h2, show (textL a (txtN a)).length = txtN a by simp [textL]]
    exact Nat.le_trans h1 (by decide)
  have hv : readV tx.data.toList = a := by rw [htl]; unfold readV; rw [if_pos hok.1, hok.2]
  have he : readE tx.data.toList = 0 := by rw [htl]; unfold readE; rw [if_pos hok.1]
  have lx : leftW a c < W384 := leftW_lt _ _
  obtain ⟨x, hx⟩ : ∃ x, leftW a c = x := ⟨_, rfl⟩
  obtain ⟨y, hy⟩ : ∃ y, x / 2 ^ c = y := ⟨_, rfl⟩
  obtain ⟨u, hu⟩ : ∃ o, decide (x % 2 ^ c ≠ 0) = o := ⟨_, rfl⟩
  rw [hx] at lx
  obtain rfl : a = y := by rw [← hy, ← hx]; exact (left_back ha ho).symm
  have hm : Tryd.prog.eqGuardType Tryd.prog.depth 24 = false := by kernel_rfl
  have q0 : ∀ w, (binOp .neq 24 (.agg (wv (a))) (.agg (wv (a)))).run Tryd.prog w = .ok (.bool false) w := fun w => by
    have := run_neq_wv Tryd.underlying24 Tryd.underlying22 (by kernel_rfl) (a) (a) (ha) (ha) w
    rwa [decide_eq_true rfl] at this
  have q1 : ∀ w, (binOp .eql 24 (.agg (wv (a))) (.agg (wv (a)))).run Tryd.prog w = .ok (.bool true) w := fun w => by
    have := run_eql_wv Tryd.underlying24 Tryd.underlying22 (by kernel_rfl) (a) (a) (ha) (ha) w
    rwa [decide_eq_true rfl] at this
  have C1 : Hid (∀ W, Calls Tryd.prog 44 #[.agg (wv (a))] W fun e w' => e = .returned (.string tx) ∧ Below W.heap.size W w') := Lib.hid fun W => by have := wtext_c a W ha; rwa [ht] at this
  have C2 : Hid (∀ W, Calls Tryd.prog 43 #[.string tx] W fun e w' => e = .returned (.tuple #[.agg (wv a), .int .i64 0]) ∧ Below W.heap.size W w') := Lib.hid fun W => by have := wread_c tx W hsz; rwa [hv, he] at this
  have C3 : Hid (∀ W, Calls Tryd.prog 23 #[.agg (wv (a)), .int .i64 n] W fun e w' => e = .returned (.tuple #[.agg (wv x), .bool false]) ∧ Below W.heap.size W w') := Lib.hid fun W => by have := wleft_c a n W ha; rwa [hc, hx, decide_eq_false ho] at this
  have C4 : Hid (∀ W, Tab W → Calls Tryd.prog 22 #[.agg (wv (x)), .int .i64 n] W fun e w' => e = .returned (.tuple #[.agg (wv a), .bool u]) ∧ Below W.heap.size W w') := Lib.hid fun W hT => by have := wright_c x n W lx hT; rwa [hc, hy, hu] at this
  have CA : Hid (∀ W, Calls Tryd.prog 29 #[] W fun e w' => e = .returned (.bool true) ∧ Below W.heap.size W w') := Lib.hid fun W => alive2_c W
  clear hc ht hok htl hsz hv he hx hy hu lx ha ho
  go_enter Tryd.func11, Tryd.ntmps11
  have HS0 := Lib.hid ((Ds.nil w).box (wv (a)) 24 (w.heap.size) rfl)
  have g1_0 : Blk (w.alloc (.cells (wv (a)) 24)) (w.heap.size) (wv (a)) 24 := HS0.out.all 0 _ rfl
  have tb1 : Tab (w.alloc (.cells (wv (a)) 24)) := HTab.out.below0 HS0.out.le
  go_wp2_with (first
    | (refine wpList_load_wv rfl 24 _ rfl _ rfl 24 _ _ (by with_reducible assumption) Tryd.underlying24 rfl (by kernel_rfl) ?_)
    | (refine wpList_load_wv_g rfl 24 _ rfl _ rfl 24 _ _ (by with_reducible assumption) Tryd.underlying24 rfl (by kernel_rfl) ?_)
    | (go_at_call 44; (with_reducible refine (C1.out _).mono ?_); rintro e wc55 ⟨rfl, bc55⟩; clear C1; have H156 : Hid (Ds [(w.heap.size, wv (a), 24)] w wc55) := Lib.hid (HS0.out.call bc55); clear g1_0 tb1 bc55 HS0; have g2_0 : Blk wc55 (w.heap.size) (wv (a)) 24 := H156.out.all 0 _ rfl; have tb2 : Tab wc55 := HTab.out.below0 H156.out.le)
    | (go_at_call 43; (with_reducible refine (C2.out _).mono ?_); rintro e wc57 ⟨rfl, bc57⟩; clear C2; have H158 : Hid (Ds [(w.heap.size, wv (a), 24)] w wc57) := Lib.hid (H156.out.call bc57); clear g2_0 tb2 bc57 H156; have g3_0 : Blk wc57 (w.heap.size) (wv (a)) 24 := H158.out.all 0 _ rfl; have tb3 : Tab wc57 := HTab.out.below0 H158.out.le)
    | (refine wpList_store_wv rfl 24 _ _ rfl (wc57.heap.size) (a) rfl rfl 24 0 (Blk.zeroAt _ _ rfl) (by kernel_rfl) ?_; have H159 : Hid (Ds [(wc57.heap.size, wv (a), 24), (w.heap.size, wv (a), 24)] w ((wc57.alloc (.cells #[.int .u64 0, .int .u64 0, .int .u64 0, .int .u64 0, .int .u64 0, .int .u64 0] 24)).setRow wc57.heap.size (wv (a)))) := Lib.hid ((H158.out.box #[.int .u64 0, .int .u64 0, .int .u64 0, .int .u64 0, .int .u64 0, .int .u64 0] 24 _ rfl).setRow 0 (wv (a)) _ _ _ rfl); clear g3_0 tb3 H158; have g4_0 : Blk ((wc57.alloc (.cells #[.int .u64 0, .int .u64 0, .int .u64 0, .int .u64 0, .int .u64 0, .int .u64 0] 24)).setRow wc57.heap.size (wv (a))) (wc57.heap.size) (wv (a)) 24 := H159.out.all 0 _ rfl; have g4_1 : Blk ((wc57.alloc (.cells #[.int .u64 0, .int .u64 0, .int .u64 0, .int .u64 0, .int .u64 0, .int .u64 0] 24)).setRow wc57.heap.size (wv (a))) (w.heap.size) (wv (a)) 24 := H159.out.all 1 _ rfl; have tb4 : Tab ((wc57.alloc (.cells #[.int .u64 0, .int .u64 0, .int .u64 0, .int .u64 0, .int .u64 0, .int .u64 0] 24)).setRow wc57.heap.size (wv (a))) := HTab.out.below0 H159.out.le)
    | (go_at_call 23; (with_reducible refine (C3.out _).mono ?_); rintro e wc60 ⟨rfl, bc60⟩; clear C3; have H161 : Hid (Ds [(wc57.heap.size, wv (a), 24), (w.heap.size, wv (a), 24)] w wc60) := Lib.hid (H159.out.call bc60); clear g4_0 g4_1 tb4 bc60 H159; have g5_0 : Blk wc60 (wc57.heap.size) (wv (a)) 24 := H161.out.all 0 _ rfl; have g5_1 : Blk wc60 (w.heap.size) (wv (a)) 24 := H161.out.all 1 _ rfl; have tb5 : Tab wc60 := HTab.out.below0 H161.out.le)
    | (refine wpList_store_wv rfl 24 _ _ rfl (wc60.heap.size) (x) rfl rfl 24 0 (Blk.zeroAt _ _ rfl) (by kernel_rfl) ?_; have H162 : Hid (Ds [(wc60.heap.size, wv (x), 24), (wc57.heap.size, wv (a), 24), (w.heap.size, wv (a), 24)] w ((wc60.alloc (.cells #[.int .u64 0, .int .u64 0, .int .u64 0, .int .u64 0, .int .u64 0, .int .u64 0] 24)).setRow wc60.heap.size (wv (x)))) := Lib.hid ((H161.out.box #[.int .u64 0, .int .u64 0, .int .u64 0, .int .u64 0, .int .u64 0, .int .u64 0] 24 _ rfl).setRow 0 (wv (x)) _ _ _ rfl); clear g5_0 g5_1 tb5 H161; have g6_0 : Blk ((wc60.alloc (.cells #[.int .u64 0, .int .u64 0, .int .u64 0, .int .u64 0, .int .u64 0, .int .u64 0] 24)).setRow wc60.heap.size (wv (x))) (wc60.heap.size) (wv (x)) 24 := H162.out.all 0 _ rfl; have g6_1 : Blk ((wc60.alloc (.cells #[.int .u64 0, .int .u64 0, .int .u64 0, .int .u64 0, .int .u64 0, .int .u64 0] 24)).setRow wc60.heap.size (wv (x))) (wc57.heap.size) (wv (a)) 24 := H162.out.all 1 _ rfl; have g6_2 : Blk ((wc60.alloc (.cells #[.int .u64 0, .int .u64 0, .int .u64 0, .int .u64 0, .int .u64 0, .int .u64 0] 24)).setRow wc60.heap.size (wv (x))) (w.heap.size) (wv (a)) 24 := H162.out.all 2 _ rfl; have tb6 : Tab ((wc60.alloc (.cells #[.int .u64 0, .int .u64 0, .int .u64 0, .int .u64 0, .int .u64 0, .int .u64 0] 24)).setRow wc60.heap.size (wv (x))) := HTab.out.below0 H162.out.le)
    | (go_at_call 22; (with_reducible refine (C4.out _ (by with_reducible assumption)).mono ?_); rintro e wc63 ⟨rfl, bc63⟩; clear C4; have H164 : Hid (Ds [(wc60.heap.size, wv (x), 24), (wc57.heap.size, wv (a), 24), (w.heap.size, wv (a), 24)] w wc63) := Lib.hid (H162.out.call bc63); clear g6_0 g6_1 g6_2 tb6 bc63 H162; have g7_0 : Blk wc63 (wc60.heap.size) (wv (x)) 24 := H164.out.all 0 _ rfl; have g7_1 : Blk wc63 (wc57.heap.size) (wv (a)) 24 := H164.out.all 1 _ rfl; have g7_2 : Blk wc63 (w.heap.size) (wv (a)) 24 := H164.out.all 2 _ rfl; have tb7 : Tab wc63 := HTab.out.below0 H164.out.le)
    | (refine wpList_store_wv rfl 24 _ _ rfl (wc63.heap.size) (a) rfl rfl 24 0 (Blk.zeroAt _ _ rfl) (by kernel_rfl) ?_; have H165 : Hid (Ds [(wc63.heap.size, wv (a), 24), (wc60.heap.size, wv (x), 24), (wc57.heap.size, wv (a), 24), (w.heap.size, wv (a), 24)] w ((wc63.alloc (.cells #[.int .u64 0, .int .u64 0, .int .u64 0, .int .u64 0, .int .u64 0, .int .u64 0] 24)).setRow wc63.heap.size (wv (a)))) := Lib.hid ((H164.out.box #[.int .u64 0, .int .u64 0, .int .u64 0, .int .u64 0, .int .u64 0, .int .u64 0] 24 _ rfl).setRow 0 (wv (a)) _ _ _ rfl); clear g7_0 g7_1 g7_2 tb7 H164; have g8_0 : Blk ((wc63.alloc (.cells #[.int .u64 0, .int .u64 0, .int .u64 0, .int .u64 0, .int .u64 0, .int .u64 0] 24)).setRow wc63.heap.size (wv (a))) (wc63.heap.size) (wv (a)) 24 := H165.out.all 0 _ rfl; have g8_1 : Blk ((wc63.alloc (.cells #[.int .u64 0, .int .u64 0, .int .u64 0, .int .u64 0, .int .u64 0, .int .u64 0] 24)).setRow wc63.heap.size (wv (a))) (wc60.heap.size) (wv (x)) 24 := H165.out.all 1 _ rfl; have g8_2 : Blk ((wc63.alloc (.cells #[.int .u64 0, .int .u64 0, .int .u64 0, .int .u64 0, .int .u64 0, .int .u64 0] 24)).setRow wc63.heap.size (wv (a))) (wc57.heap.size) (wv (a)) 24 := H165.out.all 2 _ rfl; have g8_3 : Blk ((wc63.alloc (.cells #[.int .u64 0, .int .u64 0, .int .u64 0, .int .u64 0, .int .u64 0, .int .u64 0] 24)).setRow wc63.heap.size (wv (a))) (w.heap.size) (wv (a)) 24 := H165.out.all 3 _ rfl; have tb8 : Tab ((wc63.alloc (.cells #[.int .u64 0, .int .u64 0, .int .u64 0, .int .u64 0, .int .u64 0, .int .u64 0] 24)).setRow wc63.heap.size (wv (a))) := HTab.out.below0 H165.out.le)
    | (go_at_call 29; (with_reducible refine (CA.out _).mono ?_); rintro e wc66 ⟨rfl, bc66⟩; clear CA; have H167 : Hid (Ds [(wc63.heap.size, wv (a), 24), (wc60.heap.size, wv (x), 24), (wc57.heap.size, wv (a), 24), (w.heap.size, wv (a), 24)] w wc66) := Lib.hid (H165.out.call bc66); clear g8_0 g8_1 g8_2 g8_3 tb8 bc66 H165; have g9_0 : Blk wc66 (wc63.heap.size) (wv (a)) 24 := H167.out.all 0 _ rfl; have g9_1 : Blk wc66 (wc60.heap.size) (wv (x)) 24 := H167.out.all 1 _ rfl; have g9_2 : Blk wc66 (wc57.heap.size) (wv (a)) 24 := H167.out.all 2 _ rfl; have g9_3 : Blk wc66 (w.heap.size) (wv (a)) 24 := H167.out.all 3 _ rfl; have tb9 : Tab wc66 := HTab.out.below0 H167.out.le))
  go_ret
  exact ⟨rfl, H167.out.le⟩
theorem walk_WideBack (a : Nat) (n : Int) (ha : a < W384) (w : World) (hT : Tab w) : Calls Tryd.prog 11 #[.agg (wv (a)), .int .i64 n] w fun e w' => e = .returned (.bool true) ∧ Below w.heap.size w w' := by
  by_cases h : W384 ≤ a * 2 ^ clamp n 384
  · exact walk_WideBack0 a n ha h w hT
  · exact walk_WideBack1 a n ha h w hT
end Go.Proofs.YtlpgflmjpdhpnaaDoor
