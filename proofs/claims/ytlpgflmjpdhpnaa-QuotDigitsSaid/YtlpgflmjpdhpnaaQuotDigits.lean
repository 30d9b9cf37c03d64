/- The walk of the law QuotDigits. -/
import Derived.Test.YtlpgflmjpdhpnaaRows
import Derived.Test.YtlpgflmjpdhpnaaG
import Derived.Test.YtlpgflmjpdhpnaaC
import Derived.Test.YtlpgflmjpdhpnaaZg
import Derived.Test.YtlpgflmjpdhpnaaZf
namespace Go.Proofs.Ytlpgflmjpdhpnaa
open Go.RowKit
set_option maxHeartbeats 4000000
set_option maxRecDepth 100000
set_option linter.unusedVariables false
set_option linter.unusedSimpArgs false
set_option exponentiation.threshold 1000
attribute [local irreducible] wv
theorem walk_QuotDigits (a b : Nat) (n : Int) (ha : a < W384) (hb : b < W384) (w : World) : Calls Try.prog 8 #[.agg (wv (a)), .agg (wv (b)), .int .i64 n] w fun e w' => e = .returned (.bool true) ∧ Below w.heap.size w w' := by
  obtain ⟨q, hq⟩ : ∃ x, digQ a b n = x := ⟨_, rfl⟩
  obtain ⟨m, hm2⟩ : ∃ x, digM a b n = x := ⟨_, rfl⟩
  obtain ⟨e0, he⟩ : ∃ x, digE a b n = x := ⟨_, rfl⟩
  have lq : q < W384 := by rw [← hq]; exact digQ_lt a b n
  have hm : Try.prog.eqGuardType Try.prog.depth 24 = false := by kernel_rfl
  have q0 : ∀ w, (binOp .eql 24 (.agg (wv (q))) (.agg (wv (q)))).run Try.prog w = .ok (.bool true) w := fun w => by
    have := run_eql_wv Try.underlying24 Try.underlying22 (by kernel_rfl) (q) (q) (lq) (lq) w
    rwa [decide_eq_true rfl] at this
  have C1 : Hid (∀ W, Calls Try.prog 26 #[.agg (wv (a)), .agg (wv (b)), .int .i64 n] W fun e w' => e = .returned (.tuple #[.agg (wv q), .bool m, .int .i64 (e0 : Nat)]) ∧ Below W.heap.size W w') := Lib.hid fun W => by have := qdigits_c a b n W ha hb; rwa [hq, hm2, he] at this
  have C2 : Hid (∀ W, Calls Try.prog 27 #[.agg (wv (a)), .agg (wv (b)), .int .i64 n] W fun e w' => e = .returned (.tuple #[.agg (wv q), .bool m, .int .i64 (e0 : Nat)]) ∧ Below W.heap.size W w') := Lib.hid fun W => by have := rdigits3_c a b n W ha hb; rwa [hq, hm2, he] at this
  have CA : Hid (∀ W, Calls Try.prog 19 #[] W fun e w' => e = .returned (.bool true) ∧ Below W.heap.size W w') := Lib.hid fun W => alive3_c W
  clear hq hm2 he lq ha hb
  go_enter Try.func8, Try.ntmps8
  have HS0 := Lib.hid (((Ds.nil w).box (wv (a)) 24 (w.heap.size) rfl).box (wv (b)) 24 (w.heap.size + 1) (by simp))
  have g1_0 : Blk ((w.alloc (.cells (wv (a)) 24)).alloc (.cells (wv (b)) 24)) (w.heap.size + 1) (wv (b)) 24 := HS0.out.all 0 _ rfl
  have g1_1 : Blk ((w.alloc (.cells (wv (a)) 24)).alloc (.cells (wv (b)) 24)) (w.heap.size) (wv (a)) 24 := HS0.out.all 1 _ rfl
  go_wp2_with (first
    | (refine wpList_load_wv rfl 24 _ rfl _ rfl 24 _ _ (by with_reducible assumption) Try.underlying24 rfl (by kernel_rfl) ?_)
    | (refine wpList_load_wv_g rfl 24 _ rfl _ rfl 24 _ _ (by with_reducible assumption) Try.underlying24 rfl (by kernel_rfl) ?_)
    | (go_at_call 26; (with_reducible refine (C1.out _).mono ?_); rintro e wc41 ⟨rfl, bc41⟩; clear C1; have H142 : Hid (Ds [(w.heap.size + 1, wv (b), 24), (w.heap.size, wv (a), 24)] w wc41) := Lib.hid (HS0.out.call bc41); clear g1_0 g1_1 bc41 HS0; have g2_0 : Blk wc41 (w.heap.size + 1) (wv (b)) 24 := H142.out.all 0 _ rfl; have g2_1 : Blk wc41 (w.heap.size) (wv (a)) 24 := H142.out.all 1 _ rfl)
    | (refine wpList_store_wv rfl 24 _ _ rfl (wc41.heap.size) (q) rfl rfl 24 0 (Blk.zeroAt _ _ rfl) (by kernel_rfl) ?_; have H143 : Hid (Ds [(wc41.heap.size, wv (q), 24), (w.heap.size + 1, wv (b), 24), (w.heap.size, wv (a), 24)] w ((wc41.alloc (.cells #[.int .u64 0, .int .u64 0, .int .u64 0, .int .u64 0, .int .u64 0, .int .u64 0] 24)).setRow wc41.heap.size (wv (q)))) := Lib.hid ((H142.out.box #[.int .u64 0, .int .u64 0, .int .u64 0, .int .u64 0, .int .u64 0, .int .u64 0] 24 _ rfl).setRow 0 (wv (q)) _ _ _ rfl); clear g2_0 g2_1 H142; have g3_0 : Blk ((wc41.alloc (.cells #[.int .u64 0, .int .u64 0, .int .u64 0, .int .u64 0, .int .u64 0, .int .u64 0] 24)).setRow wc41.heap.size (wv (q))) (wc41.heap.size) (wv (q)) 24 := H143.out.all 0 _ rfl; have g3_1 : Blk ((wc41.alloc (.cells #[.int .u64 0, .int .u64 0, .int .u64 0, .int .u64 0, .int .u64 0, .int .u64 0] 24)).setRow wc41.heap.size (wv (q))) (w.heap.size + 1) (wv (b)) 24 := H143.out.all 1 _ rfl; have g3_2 : Blk ((wc41.alloc (.cells #[.int .u64 0, .int .u64 0, .int .u64 0, .int .u64 0, .int .u64 0, .int .u64 0] 24)).setRow wc41.heap.size (wv (q))) (w.heap.size) (wv (a)) 24 := H143.out.all 2 _ rfl)
    | (go_at_call 27; (with_reducible refine (C2.out _).mono ?_); rintro e wc44 ⟨rfl, bc44⟩; clear C2; have H145 : Hid (Ds [(wc41.heap.size, wv (q), 24), (w.heap.size + 1, wv (b), 24), (w.heap.size, wv (a), 24)] w wc44) := Lib.hid (H143.out.call bc44); clear g3_0 g3_1 g3_2 bc44 H143; have g4_0 : Blk wc44 (wc41.heap.size) (wv (q)) 24 := H145.out.all 0 _ rfl; have g4_1 : Blk wc44 (w.heap.size + 1) (wv (b)) 24 := H145.out.all 1 _ rfl; have g4_2 : Blk wc44 (w.heap.size) (wv (a)) 24 := H145.out.all 2 _ rfl)
    | (refine wpList_store_wv rfl 24 _ _ rfl (wc44.heap.size) (q) rfl rfl 24 0 (Blk.zeroAt _ _ rfl) (by kernel_rfl) ?_; have H146 : Hid (Ds [(wc44.heap.size, wv (q), 24), (wc41.heap.size, wv (q), 24), (w.heap.size + 1, wv (b), 24), (w.heap.size, wv (a), 24)] w ((wc44.alloc (.cells #[.int .u64 0, .int .u64 0, .int .u64 0, .int .u64 0, .int .u64 0, .int .u64 0] 24)).setRow wc44.heap.size (wv (q)))) := Lib.hid ((H145.out.box #[.int .u64 0, .int .u64 0, .int .u64 0, .int .u64 0, .int .u64 0, .int .u64 0] 24 _ rfl).setRow 0 (wv (q)) _ _ _ rfl); clear g4_0 g4_1 g4_2 H145; have g5_0 : Blk ((wc44.alloc (.cells #[.int .u64 0, .int .u64 0, .int .u64 0, .int .u64 0, .int .u64 0, .int .u64 0] 24)).setRow wc44.heap.size (wv (q))) (wc44.heap.size) (wv (q)) 24 := H146.out.all 0 _ rfl; have g5_1 : Blk ((wc44.alloc (.cells #[.int .u64 0, .int .u64 0, .int .u64 0, .int .u64 0, .int .u64 0, .int .u64 0] 24)).setRow wc44.heap.size (wv (q))) (wc41.heap.size) (wv (q)) 24 := H146.out.all 1 _ rfl; have g5_2 : Blk ((wc44.alloc (.cells #[.int .u64 0, .int .u64 0, .int .u64 0, .int .u64 0, .int .u64 0, .int .u64 0] 24)).setRow wc44.heap.size (wv (q))) (w.heap.size + 1) (wv (b)) 24 := H146.out.all 2 _ rfl; have g5_3 : Blk ((wc44.alloc (.cells #[.int .u64 0, .int .u64 0, .int .u64 0, .int .u64 0, .int .u64 0, .int .u64 0] 24)).setRow wc44.heap.size (wv (q))) (w.heap.size) (wv (a)) 24 := H146.out.all 3 _ rfl)
    | (go_at_call 19; (with_reducible refine (CA.out _).mono ?_); rintro e wc47 ⟨rfl, bc47⟩; clear CA; have H148 : Hid (Ds [(wc44.heap.size, wv (q), 24), (wc41.heap.size, wv (q), 24), (w.heap.size + 1, wv (b), 24), (w.heap.size, wv (a), 24)] w wc47) := Lib.hid (H146.out.call bc47); clear g5_0 g5_1 g5_2 g5_3 bc47 H146; have g6_0 : Blk wc47 (wc44.heap.size) (wv (q)) 24 := H148.out.all 0 _ rfl; have g6_1 : Blk wc47 (wc41.heap.size) (wv (q)) 24 := H148.out.all 1 _ rfl; have g6_2 : Blk wc47 (w.heap.size + 1) (wv (b)) 24 := H148.out.all 2 _ rfl; have g6_3 : Blk wc47 (w.heap.size) (wv (a)) 24 := H148.out.all 3 _ rfl))
  go_ret
  exact ⟨rfl, H148.out.le⟩
end Go.Proofs.Ytlpgflmjpdhpnaa
